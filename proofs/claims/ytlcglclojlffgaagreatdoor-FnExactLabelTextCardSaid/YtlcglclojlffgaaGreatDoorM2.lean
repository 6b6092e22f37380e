import Derived.Test.YtlcglclojlffgaaGreatDoorM1
import Derived.Test.YtlcglclojlffgaaGreatDoorM0
import Derived.Conc.LoneCalls
import Derived.Maps.AppendAt
import Derived.Laws.RangeString
namespace Go.Proofs.YtlcglclojlffgaaGreatDoor
open Go.RowKit

/-- a valid field's numbers -/
structure FdOk (F : Fd) : Prop where
  try' : FdTry F
  runs : F.Runs
theorem FldOk.ok {p k g : Int} {F : Fd} (h : FldOk p k g F) : FdOk F := ⟨⟨h.bin, h.q, h.k3, h.k8, h.fit⟩, h.runs⟩
theorem FdOk.fit {F : Fd} (h : FdOk F) : F.Fit := h.try'.fit
theorem FdOk.q_bd {F : Fd} (h : FdOk F) : 8 ≤ F.q ∧ F.q ≤ 256 := h.try'.q_bd
/-- a value is handed back; the world stands, but for what has been drawn -/
def RetQ (v : Value) (w : World) (e : Ending) (w' : World) : Prop := e = .returned v ∧ ∃ n, w' = w.drewN n
theorem RetQ.below {v : Value} {w w' : World} {e : Ending} (h : RetQ v w e w') : e = .returned v ∧ Below w.heap.size w w' := by
  obtain ⟨h1, n, rfl⟩ := h
  exact ⟨h1, below_drewN (Below.refl _ _) n⟩
theorem calls_quiet {P : Program} {f : FuncId} {args : Array Value} {w : World} {n : Nat} {v : Value} (h : Calls P f args (w.drewN n) (RetQ v (w.drewN n))) : Calls P f args (w.drewN n) fun e w'' => e = .returned v ∧ ∃ m, w'' = w.drewN m :=
  Calls.quiet_of h

/-- all numbers of a list are elements -/
def elsB (q : Nat) (xs : List Int) : Bool := xs.all fun x => inB x 0 ((q : Int) - 1)
theorem elsB_snoc {q : Nat} {xs : List Int} {k : Nat} {x : Int} (h : xs[k]? = some x) : elsB q (xs.take (k + 1)) = (elsB q (xs.take k) && inB x 0 ((q : Int) - 1)) := by
  rw [elsB, take_snoc' h, List.all_append]; simp [elsB]
theorem elsB_no {q : Nat} {xs : List Int} {k : Nat} {x : Int} (h : xs[k]? = some x) (hx : inB x 0 ((q : Int) - 1) = false) : elsB q xs = false := by
  rw [elsB, List.all_eq_false]
  exact ⟨x, List.mem_of_getElem? h, by rw [hx]; decide⟩
/-- numbers as the memory holds them -/
def natI (zs : List Nat) : List Int := zs.map fun (n : Nat) => (n : Int)
theorem natI_len (zs : List Nat) : (natI zs).length = zs.length := List.length_map _
theorem natI_at {zs : List Nat} {k : Nat} {x : Int} (h : (natI zs)[k]? = some x) : ∃ z, zs[k]? = some z ∧ x = z := by
  rw [natI, List.getElem?_map] at h
  cases hz : zs[k]? with
  | none => rw [hz] at h; cases h
  | some z => rw [hz] at h; exact ⟨z, rfl, (Option.some.inj h).symm⟩
theorem elsB_nat {q : Nat} {xs : List Int} (h : elsB q xs = true) : xs = natI (xs.map Int.toNat) ∧ ∀ x ∈ xs.map Int.toNat, x < q := by
  rw [elsB, List.all_eq_true] at h
  constructor
  · rw [natI, List.map_map]
    apply List.ext_getElem (by simp)
    intro i h1 h2
    have := inB_iff.1 (h xs[i] (List.getElem_mem h1))
    simp; omega
  · intro x hx
    obtain ⟨y, hy, rfl⟩ := List.mem_map.1 hx
    have := inB_iff.1 (h y hy)
    omega
theorem elsB_of {q : Nat} {zs : List Nat} (h : ∀ z ∈ zs, z < q) : elsB q (natI zs) = true := by
  rw [elsB, List.all_eq_true]
  intro x hx
  obtain ⟨z, hz, rfl⟩ := List.mem_map.1 hx
  have := h z hz
  rw [inB_iff]; omega
end Go.Proofs.YtlcglclojlffgaaGreatDoor
namespace Go.Proofs.YtlcglclojlffgaaGreatDoor
open Go.RowKit

set_option maxRecDepth 100000 in
set_option maxHeartbeats 1000000 in
theorem width_any (F : Fd) (hF : FdOk F) (b : Nat) (w : World) (hA : CalcAt w b F) :
    Calls Tryz.prog 194 #[.pointer (some ⟨b, 0, none⟩)] w (RetQ (.int .i64 F.k) w) := by
  have hk3 := hF.try'.k3
  have hk8 := hF.try'.k8
  have HA := Lib.hid hA
  have HQ := Lib.hid hF.try'.q
  have hq := hF.q_bd
  clear hA hF
  go_enter Tryz.func194, Tryz.ntmps194
  go_wp2_with fail
  go_loopw [3] (fun i wr => ∃ (k nn : Nat), k ≤ F.k ∧ i = .int .i64 k ∧ wr = w.drewN nn) (fun i _ => F.k - (intOf i).toNat)
  case atStart => exact ⟨0, 0, Nat.zero_le _, rfl, rfl⟩
  case round =>
    obtain ⟨k, nn, hk, rfl, rfl⟩ := hrel
    have h1 : w.cell? ⟨b, 1, none⟩ = some (.int .i64 F.q) := HA.out.cell.2.1
    obtain ⟨p, hp⟩ : ∃ p : Nat, p = 2 ^ (k + 1) := ⟨_, rfl⟩
    have hp8 : 2 ^ (k + 1) ≤ 2 ^ 9 := Nat.pow_le_pow_right (by omega) (by omega)
    have hwr : IntKind.i64.wrap (2 * 2 ^ k) = (p : Int) := by
      have hc : ((2 : Int) ^ k) = ((2 ^ k : Nat) : Int) := by push_cast; rfl
      rw [hc, show (2 : Int) * ((2 ^ k : Nat) : Int) = (p : Int) by rw [hp, Nat.pow_succ]; omega]
      exact wraps64 _ (by omega) (by omega)
    by_cases hlt : k < F.k
    · have hle : decide (p ≤ F.q) = true := by
        have h2 : 2 ^ (k + 1) ≤ 2 ^ F.k := Nat.pow_le_pow_right (by omega) hlt
        rw [HQ.out, decide_eq_true_iff]; omega
      clear hp
      go_wp2_with fail
      go_quiet (fail)
      go_wp2_with fail
      exact ⟨⟨k + 1, _, by omega, by go_num, rfl⟩, by simp [intOf]; omega⟩
    · have hle : decide (p ≤ F.q) = false := by
        have h2 : 2 ^ (F.k + 1) ≤ 2 ^ (k + 1) := Nat.pow_le_pow_right (by omega) (by omega)
        rw [Nat.pow_succ] at h2
        have := Nat.two_pow_pos F.k
        rw [HQ.out, decide_eq_false_iff_not]; omega
      clear hp
      have HK : Hid (k = F.k) := Lib.hid (by omega)
      go_wp2_with fail
      go_quiet (fail)
      go_wp2_with fail
      go_ret
      exact ⟨ret_int (by rw [HK.out]), _, World.drewN_drewN _ _ _⟩

end Go.Proofs.YtlcglclojlffgaaGreatDoor
namespace Go.Proofs.YtlcglclojlffgaaGreatDoor
open Go.RowKit

theorem CalcAt.ext {w : World} {b : Nat} {F : Fd} (h : CalcAt w b F) (s : Ext w) : CalcAt s.w b F := h.below s.below
theorem ret_sl {a : Option Addr} {n m c : Nat} (h : n = m) : Ending.returned (.slice a n c) = .returned (.slice a m c) := by rw [h]
theorem ownI_made' (w : World) (n : Nat) (hn : n ≤ 1099511627776) : OwnI (w.alloc (.cells (madeCells #[.int .i64 0] n) 2)) w.heap.size (.slice (some ⟨w.heap.size, 0, none⟩) n n) (List.replicate n 0) :=
  OwnI.of_made (World.ownsRow_lit (base := w.heap.size) (size := 1) w (madeCells #[.int .i64 0] n) n (Nat.le_refl _) (by unfold maxLen; omega) (by rw [size_madeCells]; omega))
theorem natI_rep (n : Nat) : natI (List.replicate n 0) = List.replicate n 0 := by simp [natI]
theorem natI_set (zs : List Nat) (k x : Nat) : natI (zs.set k x) = (natI zs).set k (x : Int) := by simp [natI, List.map_set]
theorem natI_take (zs : List Nat) (k : Nat) : natI (zs.take k) = (natI zs).take k := by simp [natI, List.map_take]
theorem IntsAt.take {w : World} {a : Option Addr} {zs : List Int} (h : IntsAt w a zs) (k : Nat) : IntsAt w a (zs.take k) := by
  intro i hi
  rw [List.length_take] at hi
  obtain ⟨b, o, h1, h2⟩ := h i (by omega)
  exact ⟨b, o, h1, by rw [h2]; simp⟩
/-- a slice of the call's own, cut short -/
theorem OwnI.cut {w : World} {base : Nat} {a : Option Addr} {n c : Nat} {zs : List Int} (h : OwnI w base (.slice a n c) zs) (k : Nat) (hk : k ≤ zs.length) : OwnI w base (.slice a k c) (zs.take k) := by
  unfold OwnI World.ownsRow at h ⊢
  have e : (zs.take k).length = k := by rw [List.length_take]; omega
  rw [e]
  refine ⟨by simp [List.length_take]; omega, ?_⟩
  rcases h.2 with ⟨h1, h0⟩ | ⟨g, cap, cur, h1, hb, hg, hn, hm, hs, ht⟩
  · left
    have := Value.slice.inj h1
    obtain ⟨r1, r2, r3⟩ := this
    have h00 : k = 0 := by omega
    refine ⟨by rw [r1, h00, r3], h00⟩
  · right
    have := Value.slice.inj h1
    obtain ⟨r1, r2, r3⟩ := this
    refine ⟨g, cap, cur, by rw [r1, r3], hb, hg, by omega, hm, hs, ?_⟩
    rw [Nat.mul_one] at ht ⊢
    rw [List.map_take, ← ht, List.take_take, Nat.min_eq_left (by omega)]

/-- coefficients read from memory -/
theorem co_at {w : World} {a : Option Addr} {zs : List Nat} (H : IntsAt w a (natI zs)) {k : Nat} (hk : k < zs.length) :
    ∃ b o, a = some ⟨b, o, none⟩ ∧ b < w.heap.size ∧ w.cell? ⟨b, o + k, none⟩ = some (.int .i64 (co zs k : Nat)) := by
  obtain ⟨b, o, x, h1, h2, h3, h4⟩ := H.at (k := k) (by rw [natI_len]; exact hk)
  obtain ⟨z, hz, rfl⟩ := natI_at h2
  exact ⟨b, o, h1, h3, by rw [h4, co_some hz]⟩

end Go.Proofs.YtlcglclojlffgaaGreatDoor
namespace Go.Proofs.YtlcglclojlffgaaGreatDoor
open Go.RowKit

theorem Fd.IsInv.unique {F : Fd} (hr : F.Runs) {a b b' : Nat} (h : F.IsInv a b) (h' : F.IsInv a b') : b = b' := by
  obtain ⟨i, hi, e, rfl⟩ := h
  obtain ⟨j, hj, e', rfl⟩ := h'
  rcases Nat.lt_trichotomy i j with h | h | h
  · exact absurd (e.trans e'.symm) (F.pw_inj hr h hj)
  · rw [h]
  · exact absurd (e'.trans e.symm) (F.pw_inj hr h hi)
theorem Fd.IsInv.lt {F : Fd} (hf : F.Fit) {a b : Nat} (h : F.IsInv a b) : b < F.q := by
  obtain ⟨i, -, -, rfl⟩ := h
  exact F.pw_lt hf _
theorem Fd.isInv_one {F : Fd} (hf : F.Fit) : F.IsInv 1 1 := ⟨0, by have := hf.q3; omega, rfl, by rw [Nat.sub_zero, Nat.mod_self]; rfl⟩
/-- the quotient when its j coefficients from n - 1 down are found -/
def quoTo (F : Fd) (p q : List Nat) (lead n : Nat) : Nat → List Nat
  | 0 => List.replicate n 0
  | j + 1 => (quoTo F p q lead n j).set (n - 1 - j) (F.mul (co (divTo F p q lead n j) (n - 1 - j + q.length - 1)) lead)
theorem quoTo_len (F : Fd) (p q : List Nat) (lead n : Nat) : ∀ j, (quoTo F p q lead n j).length = n
  | 0 => List.length_replicate
  | j + 1 => by rw [quoTo, List.length_set, quoTo_len F p q lead n j]
def pQuo (F : Fd) (p q : List Nat) (lead : Nat) : List Nat := if p.length < q.length then [] else trimN (quoTo F p q lead (p.length - q.length + 1) (p.length - q.length + 1))
/-- two polynomials of the call's own are handed back -/
def RetQR (w : World) (u v : List Nat) (e : Ending) (w' : World) : Prop :=
  ∃ a c a' c', e = .returned (.tuple #[.slice a u.length c, .slice a' v.length c']) ∧ OwnI w' w.heap.size (.slice a u.length c) (natI u) ∧ OwnI w' w.heap.size (.slice a' v.length c') (natI v) ∧ Below w.heap.size w w'

/-- a copy of a polynomial -/
theorem app_own {w1 : World} {B : Nat} {v : Value} {n : Nat} {p : List Nat} (h : w1.ownsRow B 2 1 v n ([] ++ (natI p).map (Value.int .i64))) (hn : n = (natI p).length) : OwnI w1 B v (natI p) := own_app h hn

end Go.Proofs.YtlcglclojlffgaaGreatDoor
namespace Go.Proofs.YtlcglclojlffgaaGreatDoor
open Go.RowKit

/-- a valid binary field in numbers -/
structure FV (p k g : Int) (F : Fd) : Prop where
  ok : FldOk p k g F
  b : fldB p k g = true
  e : F = bF k.toNat g.toNat
theorem fv_of {p k g : Int} (h : fldB p k g = true) : FV p k g (bF k.toNat g.toNat) := ⟨fldB_ok h, h, rfl⟩
theorem FV.fd {p k g : Int} {F : Fd} (h : FV p k g F) : FdOk F := h.ok.ok
theorem calc_fv {p k g : Int} {F : Fd} (h : FV p k g F) (w : World) :
    Calls Tryz.prog 192 #[.agg #[.int .i64 p, .int .i64 k, .int .i64 g]] w (RetCalc true F w) := by
  have h2 := calc_two k g w
  have hp := h.ok.p
  have hb := h.b
  subst hp
  rw [hb, ← h.e] at h2
  exact h2

/-- a coder in memory -/
def CoderAt (w : World) (d b : Nat) (F : Fd) (len chk : Int) : Prop := w.heap[d]? = some (.cells #[.pointer (some ⟨b, 0, none⟩), .int .i64 len, .int .i64 chk] 285 (0, 0)) ∧ CalcAt w b F
theorem CoderAt.below {w w' : World} {d b : Nat} {F : Fd} {len chk : Int} (h : CoderAt w d b F len chk) (hb : Below w.heap.size w w') : CoderAt w' d b F len chk := ⟨blkK hb h.1, h.2.below hb⟩
theorem CoderAt.cell {w : World} {d b : Nat} {F : Fd} {len chk : Int} (h : CoderAt w d b F len chk) : w.cell? ⟨d, 0, none⟩ = some (.pointer (some ⟨b, 0, none⟩)) ∧ w.cell? ⟨d, 1, none⟩ = some (.int .i64 len) ∧ w.cell? ⟨d, 2, none⟩ = some (.int .i64 chk) := by
  have hc := (heap_cellR h.1).1
  exact ⟨by rw [hc]; rfl, by rw [hc]; rfl, by rw [hc]; rfl⟩
/-- a coder is handed back, or none -/
def RetCoder (ok : Bool) (F : Fd) (len chk : Int) (w : World) (e : Ending) (w' : World) : Prop :=
  Below w.heap.size w w' ∧ ∃ a, e = .returned (.tuple #[.pointer a, .bool ok]) ∧ (ok = true → ∃ d b, a = some ⟨d, 0, none⟩ ∧ CoderAt w' d b F len chk)
set_option maxRecDepth 100000 in
set_option maxHeartbeats 1000000 in
theorem coder_any {p k g : Int} {F : Fd} (h : FV p k g F) (len chk : Int) (w : World) :
    Calls Tryz.prog 210 #[.agg #[.int .i64 p, .int .i64 k, .int .i64 g, .int .i64 len, .int .i64 chk]] w (RetCoder (codB F.q len chk) F len chk w) := by
  have H := Lib.hid h
  have hq := h.fd.q_bd
  clear h
  rcases Bool.eq_false_or_eq_true (inB chk 1 64) with h1 | h1
  · have hc := inB_iff.1 h1
    have hw : wrap64 (chk + 1) = chk + 1 := by unfold wrap64; omega
    rcases Bool.eq_false_or_eq_true (inB len (chk + 1) 255) with h2 | h2
    · have hl := inB_iff.1 h2
      by_cases h3 : len < F.q
      · have HR := Lib.hid (show codB F.q len chk = true by simp [codB]; omega)
        have h3' : decide ((F.q : Int) ≤ len) = false := by simp; omega
        clear h3 hw
        go_enter Tryz.func210, Tryz.ntmps210
        go_wp2_with fail
        refine (inRange_any _ _ _ _).mono ?_
        rw [h1]
        rintro e w' ⟨rfl, rfl⟩
        go_wp2_with fail
        refine (inRange_any _ _ _ _).mono ?_
        rw [h2]
        rintro e w' ⟨rfl, rfl⟩
        go_wp2_with fail
        refine (calc_fv H.out _).mono ?_
        rintro e w1 ⟨hb1, a1, rfl, ha⟩
        obtain ⟨b, rfl, -, hA⟩ := ha rfl
        have HB := Lib.hid (bt1 hb1)
        have HA := Lib.hid hA
        have hqc := hA.cell.2.1
        have hbox := box1 hb1
        have hz : w.heap.size < w1.heap.size := by have := hb1.size; simp at this; omega
        clear hb1 hA ha
        go_wp2_with fail
        go_quiet (fail)
        go_wp2_with fail
        go_ret2
        rw [HR.out]
        have hn := bt0 HB.out ((Below.refl _ _).drew) (Nat.le_refl _)
        exact ⟨bt0 (HB.out.trans (below_drewN (Below.refl _ _) nq)) (ba1 _ _) (Nat.le_refl _), _, rfl, fun _ => ⟨_, b, rfl, push_at _ _, (HA.out.below (below_drewN (Below.refl _ _) nq)).below (ba1 _ _)⟩⟩
      · have HR := Lib.hid (show codB F.q len chk = false by simp [codB]; omega)
        have h3' : decide ((F.q : Int) ≤ len) = true := by simp; omega
        clear h3 hw
        go_enter Tryz.func210, Tryz.ntmps210
        go_wp2_with fail
        refine (inRange_any _ _ _ _).mono ?_
        rw [h1]
        rintro e w' ⟨rfl, rfl⟩
        go_wp2_with fail
        refine (inRange_any _ _ _ _).mono ?_
        rw [h2]
        rintro e w' ⟨rfl, rfl⟩
        go_wp2_with fail
        refine (calc_fv H.out _).mono ?_
        rintro e w1 ⟨hb1, a1, rfl, ha⟩
        obtain ⟨b, rfl, -, hA⟩ := ha rfl
        have HB := Lib.hid (bt1 hb1)
        have hqc := hA.cell.2.1
        have hbox := box1 hb1
        have hz : w.heap.size < w1.heap.size := by have := hb1.size; simp at this; omega
        clear hb1 hA ha
        go_wp2_with fail
        go_quiet (fail)
        go_wp2_with fail
        go_ret2
        rw [HR.out]
        exact ⟨HB.out.trans (below_drewN (Below.refl _ _) nq), none, rfl, fun h => by cases h⟩
    · have hl := inB_not.1 h2
      have HR := Lib.hid (show codB F.q len chk = false by simp [codB]; omega)
      clear hw
      go_enter Tryz.func210, Tryz.ntmps210
      go_wp2_with fail
      refine (inRange_any _ _ _ _).mono ?_
      rw [h1]
      rintro e w' ⟨rfl, rfl⟩
      go_wp2_with fail
      refine (inRange_any _ _ _ _).mono ?_
      rw [h2]
      rintro e w' ⟨rfl, rfl⟩
      go_wp2_with fail
      go_ret2
      rw [HR.out]
      exact ⟨ba1 _ _, none, rfl, fun h => by cases h⟩
  · have hc := inB_not.1 h1
    have HR := Lib.hid (show codB F.q len chk = false by simp [codB]; omega)
    go_enter Tryz.func210, Tryz.ntmps210
    go_wp2_with fail
    refine (inRange_any _ _ _ _).mono ?_
    rw [h1]
    rintro e w' ⟨rfl, rfl⟩
    go_wp2_with fail
    go_ret2
    rw [HR.out]
    exact ⟨ba1 _ _, none, rfl, fun h => by cases h⟩
set_option maxHeartbeats 1000000 in
theorem isCode_any {p k g : Int} {F : Fd} (h : FV p k g F) (len chk : Int) (w : World) :
    Calls Tryz.prog 198 #[.agg #[.int .i64 p, .int .i64 k, .int .i64 g, .int .i64 len, .int .i64 chk]] w fun e w' => e = .returned (.bool (codB F.q len chk)) ∧ Below w.heap.size w w' := by
  have H := Lib.hid h
  clear h
  go_enter Tryz.func198, Tryz.ntmps198
  go_wp2_with fail
  refine (coder_any H.out len chk _).mono ?_
  rintro e w1 ⟨hb1, a1, rfl, -⟩
  have HB := Lib.hid (bt1 hb1)
  clear hb1
  go_wp2_with fail
  go_ret
  exact ⟨rfl, HB.out⟩
set_option maxHeartbeats 1000000 in
theorem total_any (p k g d c n : Int) (w : World) (hd : 0 ≤ d) (hd2 : d ≤ 100000) (hc : 0 ≤ c) (hc2 : c ≤ 1000) (hn : 0 ≤ n) (hn2 : n ≤ 1000) :
    Calls Tryz.prog 197 #[.agg #[.int .i64 p, .int .i64 k, .int .i64 g, .int .i64 d, .int .i64 c, .int .i64 n]] w fun e w' => e = .returned (.int .i64 (Lay.total ⟨d, c, n⟩)) ∧ Below w.heap.size w w' := by
  have h1 : 0 ≤ n * c := Int.mul_nonneg hn hc
  have h2 : n * c ≤ 1000 * 1000 := Int.mul_le_mul hn2 hc2 hc (by omega)
  have HR := Lib.hid (show Lay.total ⟨d, c, n⟩ = d + n * c from rfl)
  obtain ⟨m, hm⟩ : ∃ m, m = n * c := ⟨_, rfl⟩
  rw [← hm] at h1 h2 HR
  have hw : wrap64 (n * c) = m := by rw [← hm]; unfold wrap64; omega
  clear hm
  go_enter Tryz.func197, Tryz.ntmps197
  go_wp2_with fail
  go_ret
  exact ⟨ret_int HR.out.symm, ba1 _ _⟩
set_option maxHeartbeats 1000000 in
theorem share_any (p k g d c n b : Int) (w : World) (hd : 0 ≤ d) (hd2 : d ≤ 1500) (hn : 1 ≤ n) (hn2 : n ≤ 16) :
    Calls Tryz.prog 211 #[.agg #[.int .i64 p, .int .i64 k, .int .i64 g, .int .i64 d, .int .i64 c, .int .i64 n], .int .i64 b] w fun e w' => e = .returned (.int .i64 (Lay.share ⟨d, c, n⟩ b)) ∧ Below w.heap.size w w' := by
  have h1 : 0 ≤ d % n := Int.emod_nonneg _ (by omega)
  have h2 : d % n < n := Int.emod_lt_of_pos _ (by omega)
  have h3 : 0 ≤ d / n := Int.ediv_nonneg hd (by omega)
  have h4 : d / n ≤ d := Int.ediv_le_self _ hd
  by_cases hc : n - d % n ≤ b
  · have HR := Lib.hid (show Lay.share ⟨d, c, n⟩ b = d / n + 1 by simp only [Lay.share]; rw [if_pos hc])
    have hdec : decide (n - d % n ≤ b) = true := by simpa using hc
    clear hc
    go_enter Tryz.func211, Tryz.ntmps211
    go_wp2_with fail
    go_quiet (fail)
    go_wp2_with fail
    go_ret
    exact ⟨ret_int HR.out.symm, (ba1 _ _).trans (below_drewN (Below.refl _ _) nq)⟩
  · have HR := Lib.hid (show Lay.share ⟨d, c, n⟩ b = d / n by simp only [Lay.share]; rw [if_neg hc, Int.add_zero])
    have hdec : decide (n - d % n ≤ b) = false := by simpa using hc
    clear hc
    go_enter Tryz.func211, Tryz.ntmps211
    go_wp2_with fail
    go_quiet (fail)
    go_wp2_with fail
    go_ret
    exact ⟨ret_int HR.out.symm, (ba1 _ _).trans (below_drewN (Below.refl _ _) nq)⟩
theorem share_bd {d c n b : Int} (hd : 0 ≤ d) (hd2 : d ≤ 1500) (hn : 1 ≤ n) : 0 ≤ Lay.share ⟨d, c, n⟩ b ∧ Lay.share ⟨d, c, n⟩ b ≤ 1501 := by
  have h3 : 0 ≤ d / n := Int.ediv_nonneg hd (by omega)
  have h4 : d / n ≤ d := Int.ediv_le_self _ hd
  simp only [Lay.share]
  split <;> omega
set_option maxHeartbeats 1000000 in
theorem layCode_any (p k g d c n b : Int) (w : World) (hd : 0 ≤ d) (hd2 : d ≤ 1500) (hc : 0 ≤ c) (hc2 : c ≤ 1000) (hn : 1 ≤ n) (hn2 : n ≤ 16) :
    Calls Tryz.prog 199 #[.agg #[.int .i64 p, .int .i64 k, .int .i64 g, .int .i64 d, .int .i64 c, .int .i64 n], .int .i64 b] w fun e w' => e = .returned (.agg #[.int .i64 p, .int .i64 k, .int .i64 g, .int .i64 (Lay.share ⟨d, c, n⟩ b + c), .int .i64 c]) ∧ Below w.heap.size w w' := by
  have hs := share_bd (c := c) (b := b) hd hd2 hn
  obtain ⟨s, hS⟩ : ∃ s, s = Lay.share ⟨d, c, n⟩ b := ⟨_, rfl⟩
  have HS := Lib.hid hS
  rw [← hS] at hs
  clear hS
  go_enter Tryz.func199, Tryz.ntmps199
  go_wp2_with fail
  have hbox1 := heap2 w (.cells #[.int .i64 p, .int .i64 k, .int .i64 g, .int .i64 d, .int .i64 c, .int .i64 n] 146 (0, 0)) (.cells #[.int .i64 0, .int .i64 0, .int .i64 0, .int .i64 0, .int .i64 0] 189 (0, 0))
  have HB := Lib.hid (ba2 w (.cells #[.int .i64 p, .int .i64 k, .int .i64 g, .int .i64 d, .int .i64 c, .int .i64 n] 146 (0, 0)) (.cells #[.int .i64 0, .int .i64 0, .int .i64 0, .int .i64 0, .int .i64 0] 189 (0, 0)))
  obtain ⟨W, hW⟩ : ∃ W, W = (w.alloc (.cells #[.int .i64 p, .int .i64 k, .int .i64 g, .int .i64 d, .int .i64 c, .int .i64 n] 146 (0, 0))).alloc (.cells #[.int .i64 0, .int .i64 0, .int .i64 0, .int .i64 0, .int .i64 0] 189 (0, 0)) := ⟨_, rfl⟩
  rw [← hW] at hbox1 HB ⊢
  clear hW
  obtain ⟨hc1, hf1⟩ := heap_cellR hbox1.1
  obtain ⟨hc3, hf3⟩ := heap_cellR hbox1.2
  have hz1 : w.heap.size < W.heap.size := blkLt hbox1.1
  have hz3 : w.heap.size + 1 < W.heap.size := blkLt hbox1.2
  clear hbox1
  refine wp_region_ext_tail 11 (by kernel_rfl) (by kernel_rfl) ?_
  simp only [List.take_succ_cons, List.take_zero, List.drop_succ_cons, List.drop_zero]
  repeat (go_big_quiet_step ((go_at_call 211; go_must (exact calls_ext _ (share_any p k g d c n b _ hd hd2 hn hn2)))))
  refine wpQuiet_nil ?_
  rintro _ ⟨s', rfl⟩
  have hz' : w.heap.size + 1 < s'.w.heap.size := by have := s'.below.size; omega
  have HB2 := Lib.hid (bt0 HB.out s'.below (Nat.le_refl _))
  have hw : wrap64 (s + c) = s + c := by unfold wrap64; omega
  rw [← HS.out]
  go_wp2_with fail
  refine bodyPost_ret (v := .agg #[.int .i64 p, .int .i64 k, .int .i64 g, .int .i64 (s + c), .int .i64 c]) (by simp [results, Tryz.results199, go_sem, hc3, hz3, hw]) rfl ⟨by rw [HS.out], ?_⟩
  iterate 5 (refine Below.setCell ?_ (by dsimp only; omega) _)
  exact HB2.out
set_option maxRecDepth 100000 in
set_option maxHeartbeats 2000000 in
theorem isLayout_any {p k g : Int} {F : Fd} (h : FV p k g F) (d c n : Int) (w : World) :
    Calls Tryz.prog 184 #[.agg #[.int .i64 p, .int .i64 k, .int .i64 g, .int .i64 d, .int .i64 c, .int .i64 n]] w fun e w' => e = .returned (.bool (Lay.ok ⟨d, c, n⟩ F.q)) ∧ Below w.heap.size w w' := by
  have H := Lib.hid h
  clear h
  rcases Bool.eq_false_or_eq_true (inB n 1 16) with h1 | h1
  · have hn := inB_iff.1 h1
    rcases Bool.eq_false_or_eq_true (inB d n 1500) with h2 | h2
    · have hd := inB_iff.1 h2
      rcases Bool.eq_false_or_eq_true (inB c 1 64) with h3 | h3
      · have hc := inB_iff.1 h3
        by_cases h4 : 1500 < Lay.total ⟨d, c, n⟩
        · have HR := Lib.hid (show Lay.ok ⟨d, c, n⟩ F.q = false by simp only [Lay.ok]; simp; omega)
          have h4' : decide (1500 < Lay.total ⟨d, c, n⟩) = true := by simpa using h4
          clear h4
          go_enter Tryz.func184, Tryz.ntmps184
          go_wp2_with fail
          refine (inRange_any _ _ _ _).mono ?_
          rw [h1]
          rintro e w' ⟨rfl, rfl⟩
          go_wp2_with fail
          refine (inRange_any _ _ _ _).mono ?_
          rw [h2]
          rintro e w' ⟨rfl, rfl⟩
          go_wp2_with fail
          refine (inRange_any _ _ _ _).mono ?_
          rw [h3]
          rintro e w' ⟨rfl, rfl⟩
          go_wp2_with fail
          refine (total_any p k g d c n _ (by omega) (by omega) (by omega) (by omega) (by omega) (by omega)).mono ?_
          rintro e w1 ⟨rfl, hb1⟩
          have hbox := box1 hb1
          have HB1 := Lib.hid (bt1 hb1)
          have hz : w.heap.size < w1.heap.size := by have := hb1.size; simp at this; omega
          clear hb1
          go_wp2_with fail
          go_ret
          exact ⟨ret_bool HR.out.symm, HB1.out⟩
        · rcases Bool.eq_false_or_eq_true (codB F.q (Lay.share ⟨d, c, n⟩ 0 + c) c) with h5 | h5
          · have HR := Lib.hid (show Lay.ok ⟨d, c, n⟩ F.q = codB F.q (Lay.share ⟨d, c, n⟩ (n - 1) + c) c by
              simp only [Lay.ok]; rw [h5]; simp; omega)
            have H5 := Lib.hid h5
            have h4' : decide (1500 < Lay.total ⟨d, c, n⟩) = false := by simpa using h4
            clear h4 h5
            go_enter Tryz.func184, Tryz.ntmps184
            go_wp2_with fail
            refine (inRange_any _ _ _ _).mono ?_
            rw [h1]
            rintro e w' ⟨rfl, rfl⟩
            go_wp2_with fail
            refine (inRange_any _ _ _ _).mono ?_
            rw [h2]
            rintro e w' ⟨rfl, rfl⟩
            go_wp2_with fail
            refine (inRange_any _ _ _ _).mono ?_
            rw [h3]
            rintro e w' ⟨rfl, rfl⟩
            go_wp2_with fail
            refine (total_any p k g d c n _ (by omega) (by omega) (by omega) (by omega) (by omega) (by omega)).mono ?_
            rintro e w1 ⟨rfl, hb1⟩
            have hbox := box1 hb1
            have HB1 := Lib.hid (bt1 hb1)
            have hz : w.heap.size < w1.heap.size := by have := hb1.size; simp at this; omega
            clear hb1
            go_wp2_with fail
            refine (layCode_any p k g d c n 0 _ (by omega) (by omega) (by omega) (by omega) (by omega) (by omega)).mono ?_
            rintro e w2 ⟨rfl, hb2⟩
            have hbox2 := boxK hb2 hbox (by simp)
            have hz2 : w.heap.size < w2.heap.size := by have := hb2.size; omega
            have HB2 := Lib.hid (bt0 HB1.out hb2 (Nat.le_refl _))
            clear hb2 hbox
            go_wp2_with fail
            refine (isCode_any H.out _ _ _).mono ?_
            rw [H5.out]
            rintro e w3 ⟨rfl, hb3⟩
            have hbox3 := boxK hb3 hbox2 (by simp)
            have hz3 : w.heap.size < w3.heap.size := by have := hb3.size; omega
            have HB3 := Lib.hid (bt0 HB2.out hb3 (Nat.le_refl _))
            clear hb3 hbox2
            go_wp2_with fail
            refine (layCode_any p k g d c n (n - 1) _ (by omega) (by omega) (by omega) (by omega) (by omega) (by omega)).mono ?_
            rintro e w4 ⟨rfl, hb4⟩
            have HB4 := Lib.hid (bt0 HB3.out hb4 (Nat.le_refl _))
            clear hb4 hbox3
            go_wp2_with fail
            refine (isCode_any H.out _ _ _).mono ?_
            rintro e w5 ⟨rfl, hb5⟩
            have HB5 := Lib.hid (bt0 HB4.out hb5 (Nat.le_refl _))
            clear hb5
            go_wp2_with fail
            go_ret
            exact ⟨ret_bool HR.out.symm, HB5.out⟩
          · have HR := Lib.hid (show Lay.ok ⟨d, c, n⟩ F.q = false by simp only [Lay.ok]; rw [h5]; simp)
            have H5 := Lib.hid h5
            have h4' : decide (1500 < Lay.total ⟨d, c, n⟩) = false := by simpa using h4
            clear h4 h5
            go_enter Tryz.func184, Tryz.ntmps184
            go_wp2_with fail
            refine (inRange_any _ _ _ _).mono ?_
            rw [h1]
            rintro e w' ⟨rfl, rfl⟩
            go_wp2_with fail
            refine (inRange_any _ _ _ _).mono ?_
            rw [h2]
            rintro e w' ⟨rfl, rfl⟩
            go_wp2_with fail
            refine (inRange_any _ _ _ _).mono ?_
            rw [h3]
            rintro e w' ⟨rfl, rfl⟩
            go_wp2_with fail
            refine (total_any p k g d c n _ (by omega) (by omega) (by omega) (by omega) (by omega) (by omega)).mono ?_
            rintro e w1 ⟨rfl, hb1⟩
            have hbox := box1 hb1
            have HB1 := Lib.hid (bt1 hb1)
            have hz : w.heap.size < w1.heap.size := by have := hb1.size; simp at this; omega
            clear hb1
            go_wp2_with fail
            refine (layCode_any p k g d c n 0 _ (by omega) (by omega) (by omega) (by omega) (by omega) (by omega)).mono ?_
            rintro e w2 ⟨rfl, hb2⟩
            have hbox2 := boxK hb2 hbox (by simp)
            have hz2 : w.heap.size < w2.heap.size := by have := hb2.size; omega
            have HB2 := Lib.hid (bt0 HB1.out hb2 (Nat.le_refl _))
            clear hb2 hbox
            go_wp2_with fail
            refine (isCode_any H.out _ _ _).mono ?_
            rw [H5.out]
            rintro e w3 ⟨rfl, hb3⟩
            have HB3 := Lib.hid (bt0 HB2.out hb3 (Nat.le_refl _))
            clear hb3
            go_wp2_with fail
            go_ret
            exact ⟨ret_bool HR.out.symm, HB3.out⟩
      · have hc := inB_not.1 h3
        have HR := Lib.hid (show Lay.ok ⟨d, c, n⟩ F.q = false by simp only [Lay.ok]; simp; omega)
        go_enter Tryz.func184, Tryz.ntmps184
        go_wp2_with fail
        refine (inRange_any _ _ _ _).mono ?_
        rw [h1]
        rintro e w' ⟨rfl, rfl⟩
        go_wp2_with fail
        refine (inRange_any _ _ _ _).mono ?_
        rw [h2]
        rintro e w' ⟨rfl, rfl⟩
        go_wp2_with fail
        refine (inRange_any _ _ _ _).mono ?_
        rw [h3]
        rintro e w' ⟨rfl, rfl⟩
        go_wp2_with fail
        go_ret
        exact ⟨ret_bool HR.out.symm, ba1 _ _⟩
    · have hd := inB_not.1 h2
      have HR := Lib.hid (show Lay.ok ⟨d, c, n⟩ F.q = false by simp only [Lay.ok]; simp; omega)
      go_enter Tryz.func184, Tryz.ntmps184
      go_wp2_with fail
      refine (inRange_any _ _ _ _).mono ?_
      rw [h1]
      rintro e w' ⟨rfl, rfl⟩
      go_wp2_with fail
      refine (inRange_any _ _ _ _).mono ?_
      rw [h2]
      rintro e w' ⟨rfl, rfl⟩
      go_wp2_with fail
      go_ret
      exact ⟨ret_bool HR.out.symm, ba1 _ _⟩
  · have hn := inB_not.1 h1
    have HR := Lib.hid (show Lay.ok ⟨d, c, n⟩ F.q = false by simp only [Lay.ok]; simp; omega)
    go_enter Tryz.func184, Tryz.ntmps184
    go_wp2_with fail
    refine (inRange_any _ _ _ _).mono ?_
    rw [h1]
    rintro e w' ⟨rfl, rfl⟩
    go_wp2_with fail
    go_ret
    exact ⟨ret_bool HR.out.symm, ba1 _ _⟩

end Go.Proofs.YtlcglclojlffgaaGreatDoor
namespace Go.Proofs.YtlcglclojlffgaaGreatDoor
open Go.RowKit

theorem name_no {s : ByteArray} {k : Nat} {h : k < s.size} (hx : s[k].toNat < 97 ∨ 122 < s[k].toNat) : nameB s.data.toList = false := by
  have h1 : (s.data.toList.all fun c => decide (97 ≤ c.toNat) && decide (c.toNat ≤ 122)) = false := by
    rw [List.all_eq_false]
    refine ⟨s[k], ?_, by simp; omega⟩
    exact List.getElem_mem (l := s.data.toList) (by simpa using h)
  rw [nameB, h1]; rfl
theorem name_yes {s : ByteArray} (h : ∀ i (hi : i < s.size), 97 ≤ s[i].toNat ∧ s[i].toNat ≤ 122) : nameB s.data.toList = inB (s.size : Int) 1 8 := by
  have h1 : (s.data.toList.all fun c => decide (97 ≤ c.toNat) && decide (c.toNat ≤ 122)) = true := by
    rw [List.all_eq_true]
    intro x hx
    obtain ⟨i, hi, rfl⟩ := List.mem_iff_getElem.1 hx
    have := h i (by simpa using hi)
    rw [Bool.and_eq_true, decide_eq_true_eq, decide_eq_true_eq]
    exact this
  have hl : s.data.toList.length = s.size := rfl
  rw [nameB, h1, hl, Bool.eq_iff_iff]
  simp [inB]; omega
theorem ris_no {lo hi : Int} {l : List Int} {k : Nat} (hk : k < l.length) (h : (l.getD k 0 < lo ∨ hi < l.getD k 0) ∨ (0 < k ∧ l.getD k 0 ≤ l.getD (k - 1) 0)) : risB lo hi l = false := by
  rw [risB, decide_eq_false_iff_not]
  intro h2
  have := h2 k hk
  omega
theorem getD_of {l : List Int} {k : Nat} {x : Int} (h : l[k]? = some x) : l.getD k 0 = x := by rw [List.getD_eq_getElem?_getD, h]; rfl
set_option maxHeartbeats 1000000 in
theorem isName_any (s : ByteArray) (w : World) (hs : s.size ≤ 1048576) :
    Calls Tryz.prog 187 #[.string s] w fun e w' => e = .returned (.bool (nameB s.data.toList)) ∧ w = w' := by
  have hl : s.data.toList.length = s.size := rfl
  have HL := Lib.hid hl
  clear hl
  go_enter Tryz.func187, Tryz.ntmps187
  go_wp2_with fail
  go_loop [3] (fun i => ∃ k : Nat, k ≤ s.size ∧ i = .int .i64 k ∧ ∀ i (hi : i < s.size), i < k → 97 ≤ s[i].toNat ∧ s[i].toNat ≤ 122) (fun i => s.size - (intOf i).toNat)
  case atStart => exact ⟨0, Nat.zero_le _, rfl, fun i _ h => by omega⟩
  case round =>
    obtain ⟨k, hk, rfl, hall⟩ := hrel
    have HA := Lib.hid hall
    clear hall
    by_cases hlt : k < s.size
    · have hki : (k : Int) < (s.size : Int) := by omega
      by_cases h1 : s[k].toNat < 97
      · have HR := Lib.hid (name_no (h := hlt) (Or.inl h1))
        have hd : decide (((s[k].toNat : Nat) : Int) < 97) = true := by simp; omega
        go_wp2_with fail
        go_ret
        exact ⟨ret_bool HR.out.symm, rfl⟩
      · have hd : decide (((s[k].toNat : Nat) : Int) < 97) = false := by simp; omega
        by_cases h2 : 122 < s[k].toNat
        · have HR := Lib.hid (name_no (h := hlt) (Or.inr h2))
          have hd2 : decide ((122 : Int) < ((s[k].toNat : Nat) : Int)) = true := by simp; omega
          clear h1 h2
          go_wp2_with fail
          go_ret
          exact ⟨ret_bool HR.out.symm, rfl⟩
        · have hd2 : decide ((122 : Int) < ((s[k].toNat : Nat) : Int)) = false := by simp; omega
          have HK : Hid (97 ≤ s[k].toNat ∧ s[k].toNat ≤ 122) := Lib.hid (by omega)
          clear h1 h2
          go_wp2_with fail
          refine ⟨⟨k + 1, by omega, by go_num, fun i hi hik => ?_⟩, by simp [intOf]; omega⟩
          by_cases e : i = k
          · subst e; exact HK.out
          · exact HA.out i hi (by omega)
    · have hki : ¬ (k : Int) < (s.size : Int) := by omega
      have HR := Lib.hid (name_yes (s := s) (fun i hi => HA.out i hi (by omega)))
      go_wp2_with fail
      refine (inRange_any _ _ _ _).mono ?_
      rintro e w' ⟨rfl, rfl⟩
      go_wp2_with fail
      go_ret
      exact ⟨ret_bool HR.out.symm, rfl⟩
set_option maxHeartbeats 1000000 in
theorem rises_any (lo hi : Int) (a : Option Addr) (xs : List Int) (c : Nat) (w : World) (hx : IntsAt w a xs) (lx : xs.length ≤ 1099511627776) :
    Calls Tryz.prog 188 #[.slice a xs.length c, .int .i64 lo, .int .i64 hi] w fun e w' => e = .returned (.bool (risB lo hi xs)) ∧ w = w' := by
  have HX := Lib.hid hx
  clear hx
  go_enter Tryz.func188, Tryz.ntmps188
  go_wp2_with fail
  go_loop [7, 8, 11] (fun _ _ i => ∃ k : Nat, k ≤ xs.length ∧ i = .int .i64 k ∧ ∀ i, i < k → (lo ≤ xs.getD i 0 ∧ xs.getD i 0 ≤ hi) ∧ (0 < i → xs.getD (i - 1) 0 < xs.getD i 0)) (fun _ _ i => xs.length - (intOf i).toNat)
  case atStart => exact ⟨0, Nat.zero_le _, rfl, fun i h => by omega⟩
  case round =>
    obtain ⟨k, hk, rfl, hall⟩ := hrel
    have HA := Lib.hid hall
    clear hall
    by_cases hlt : k < xs.length
    · obtain ⟨b1, o1, x, rfl, hxk, hb1, hc1⟩ := HX.out.at hlt
      have hki : (k : Int) < (xs.length : Int) := by omega
      have HG := Lib.hid (getD_of hxk)
      clear hxk
      rcases Bool.eq_false_or_eq_true (inB x lo hi) with hin | hin
      · have hin' := inB_iff.1 hin
        by_cases hk0 : k = 0
        · have hk0' : ¬ (0 : Int) < (k : Int) := by omega
          have HK : Hid (∀ i, i < k + 1 → (lo ≤ xs.getD i 0 ∧ xs.getD i 0 ≤ hi) ∧ (0 < i → xs.getD (i - 1) 0 < xs.getD i 0)) := Lib.hid (fun i hi => by
            obtain rfl : i = k := by omega
            rw [HG.out]
            exact ⟨hin', fun h => by omega⟩)
          clear hk0
          go_wp2_with fail
          refine (inRange_any _ _ _ _).mono ?_
          rw [hin]
          rintro e w' ⟨rfl, rfl⟩
          go_wp2_with fail
          exact ⟨⟨k + 1, by omega, by go_num, HK.out⟩, by simp [intOf]; omega⟩
        · obtain ⟨k, rfl⟩ : ∃ k', k = k' + 1 := ⟨k - 1, by omega⟩
          obtain ⟨b2, o2, y, e2, hyk, hb2, hc2⟩ := HX.out.at (k := k) (by omega)
          simp only [Option.some.injEq, Addr.mk.injEq, and_true] at e2
          obtain ⟨rfl, rfl⟩ := e2
          have HY := Lib.hid (getD_of hyk)
          have hk0' : (0 : Int) < ((k + 1 : Nat) : Int) := by omega
          clear hyk hk0
          by_cases hxy : x ≤ y
          · have hd : decide (x ≤ y) = true := decide_eq_true hxy
            have HR := Lib.hid (ris_no (lo := lo) (hi := hi) hlt (Or.inr ⟨by omega, by rw [HG.out, Nat.add_sub_cancel, HY.out]; exact hxy⟩))
            clear hxy
            go_wp2_with fail
            refine (inRange_any _ _ _ _).mono ?_
            rw [hin]
            rintro e w' ⟨rfl, rfl⟩
            go_wp2_with fail
            go_ret
            exact ⟨ret_bool HR.out.symm, rfl⟩
          · have hd : decide (x ≤ y) = false := decide_eq_false hxy
            have HK : Hid (∀ i, i < k + 1 + 1 → (lo ≤ xs.getD i 0 ∧ xs.getD i 0 ≤ hi) ∧ (0 < i → xs.getD (i - 1) 0 < xs.getD i 0)) := Lib.hid (fun i hi => by
              by_cases e : i = k + 1
              · subst e
                rw [HG.out, Nat.add_sub_cancel, HY.out]
                exact ⟨hin', fun h => by omega⟩
              · exact HA.out i (by omega))
            clear hxy
            go_wp2_with fail
            refine (inRange_any _ _ _ _).mono ?_
            rw [hin]
            rintro e w' ⟨rfl, rfl⟩
            go_wp2_with fail
            exact ⟨⟨k + 1 + 1, by omega, by go_num, HK.out⟩, by simp [intOf]; omega⟩
      · have hin' := inB_not.1 hin
        have HR := Lib.hid (ris_no (lo := lo) (hi := hi) hlt (Or.inl (by rw [HG.out]; exact hin')))
        go_wp2_with fail
        refine (inRange_any _ _ _ _).mono ?_
        rw [hin]
        rintro e w' ⟨rfl, rfl⟩
        go_wp2_with fail
        go_ret
        exact ⟨ret_bool HR.out.symm, rfl⟩
    · have hki : ¬ (k : Int) < (xs.length : Int) := by omega
      have HR := Lib.hid (show risB lo hi xs = true by
        rw [risB, decide_eq_true_iff]
        exact fun i hi => HA.out i (by omega))
      go_wp2_with fail
      go_ret
      exact ⟨ret_bool HR.out.symm, rfl⟩
set_option maxHeartbeats 400000 in
theorem isMsz_any (n : Int) (w : World) (h1 : -9223372036854775808 ≤ n) (h2 : n ≤ 9223372036854775807) :
    Calls Tryz.prog 189 #[.int .i64 n] w fun e w' => e = .returned (.bool (msz n)) ∧ w = w' := by
  rcases Bool.eq_false_or_eq_true (inB n 17 41) with hi | hi
  · have hn := inB_iff.1 hi
    have HR := Lib.hid (show msz n = (n % 4 == 1) by simp [msz]; omega)
    go_enter Tryz.func189, Tryz.ntmps189
    go_wp2_with fail
    refine (inRange_any _ _ _ _).mono ?_
    rw [hi]
    rintro e w' ⟨rfl, rfl⟩
    go_wp2_with fail
    go_ret
    exact ⟨ret_bool HR.out.symm, rfl⟩
  · have hn := inB_not.1 hi
    have HR := Lib.hid (show msz n = false by simp [msz]; omega)
    go_enter Tryz.func189, Tryz.ntmps189
    go_wp2_with fail
    refine (inRange_any _ _ _ _).mono ?_
    rw [hi]
    rintro e w' ⟨rfl, rfl⟩
    go_wp2_with fail
    go_ret
    exact ⟨ret_bool HR.out.symm, rfl⟩

end Go.Proofs.YtlcglclojlffgaaGreatDoor
namespace Go.Proofs.YtlcglclojlffgaaGreatDoor
open Go.RowKit

theorem msz_bd {n : Int} (h : msz n = true) : 17 ≤ n ∧ n ≤ 41 := by
  unfold msz at h
  simp at h
  omega
set_option maxRecDepth 100000 in
set_option maxHeartbeats 2000000 in
theorem dataCount_any (n : Int) (w : World) (h1 : -9223372036854775808 ≤ n) (h2 : n ≤ 9223372036854775807) :
    Calls Tryz.prog 208 #[.int .i64 n] w (fun e w' => e = .returned (.int .i64 (if msz n = true then (dcnt n : Int) else 0)) ∧ Below w.heap.size w w') := by
  rcases Bool.eq_false_or_eq_true (msz n) with h | h
  · have hb := msz_bd h
    obtain ⟨m, rfl⟩ : ∃ m : Nat, n = (m : Int) := ⟨n.toNat, by omega⟩
    have HL := Lib.hid (places_len h)
    rw [if_pos h]
    go_enter Tryz.func208, Tryz.ntmps208
    go_wp2_with fail
    refine (isMsz_any _ _ h1 h2).mono ?_
    rw [h]
    rintro e w' ⟨rfl, rfl⟩
    go_wp2_with fail
    refine (dataPlaces_any m _ (by omega) (by omega)).mono ?_
    rintro e w2 ⟨a, c, rfl, -, hb2⟩
    have HB := Lib.hid hb2
    clear hb2
    rw [HL.out]
    go_wp2_with fail
    refine bodyPost_ret (v := .int .i64 (dcnt (m : Int) : Nat)) (by simp [results, Tryz.results208, go_sem]) rfl ?_
    exact ⟨rfl, HB.out⟩
  · rw [if_neg (by rw [h]; decide)]
    go_enter Tryz.func208, Tryz.ntmps208
    go_wp2_with fail
    refine (isMsz_any _ _ h1 h2).mono ?_
    rw [h]
    rintro e w' ⟨rfl, rfl⟩
    go_wp2_with fail
    refine bodyPost_ret (v := .int .i64 0) (by simp [results, Tryz.results208, go_sem]) rfl ?_
    exact ⟨rfl, Below.refl _ _⟩

end Go.Proofs.YtlcglclojlffgaaGreatDoor
namespace Go.Proofs.YtlcglclojlffgaaGreatDoor
open Go.RowKit

set_option maxHeartbeats 400000 in
theorem isPrime_even (n : Int) (w : World) (h1 : 4 ≤ n) (h2 : n ≤ 100000) (h3 : n % 2 = 0) :
    Calls Tryz.prog 203 #[.int .i64 n] w fun e w' => e = .returned (.bool false) ∧ w = w' := by
  have hd : decide (n < 2) = false := by simp; omega
  have he : (n % 2 == 0) = true := by rw [beq_iff_eq]; exact h3
  clear h3
  go_enter Tryz.func203, Tryz.ntmps203
  go_wp2_with fail
  refine wp_loop_rounds 1 ?_
  rw [rounds_succ]
  go_wp2_with fail
  go_ret
  exact ⟨rfl, rfl⟩
set_option maxHeartbeats 400000 in
theorem isField_two (k g : Int) (w : World) :
    Calls Tryz.prog 190 #[.agg #[.int .i64 2, .int .i64 k, .int .i64 g]] w fun e w' => e = .returned (.bool (fldB 2 k g)) ∧ Below w.heap.size w w' := by
  go_enter Tryz.func190, Tryz.ntmps190
  go_wp2_with fail
  refine (calc_two k g _).mono ?_
  rintro e w1 ⟨hb1, a1, rfl, -⟩
  have HB := Lib.hid (bt1 hb1)
  clear hb1
  go_wp2_with fail
  go_ret
  exact ⟨rfl, HB.out⟩
/-- the field of a size: its power and its least polynomial -/
def Least (k g : Nat) : Prop := 4 ≤ k ∧ k ≤ 8 ∧ 2 ^ k ≤ g ∧ g < 2 * 2 ^ k ∧ fldB 2 k g = true ∧ ∀ p, 2 ^ k ≤ p → p < g → fldB 2 k p = false
set_option maxRecDepth 100000 in
set_option maxHeartbeats 1000000 in
theorem fieldOf_any (S k g : Nat) (hS : S = 2 ^ k) (h : Least k g) (w : World) :
    Calls Tryz.prog 191 #[.int .i64 S] w fun e w' => e = .returned (.tuple #[.agg #[.int .i64 2, .int .i64 k, .int .i64 g], .int .i64 0]) ∧ Below w.heap.size w w' := by
  obtain ⟨h4, h8, hg1, hg2, hgt, hgl⟩ := h
  have hs16 : 2 ^ 4 ≤ 2 ^ k := Nat.pow_le_pow_right (by omega) h4
  have hs256 : 2 ^ k ≤ 2 ^ 8 := Nat.pow_le_pow_right (by omega) h8
  have hev : (S : Int) % 2 = 0 := by
    obtain ⟨j, rfl⟩ : ∃ j, k = j + 1 := ⟨k - 1, by omega⟩
    rw [hS, Nat.pow_succ]; omega
  have HE := Lib.hid hev
  rw [← hS] at hs16 hs256 hg1 hg2 hgl
  have HS := Lib.hid hS
  have HT := Lib.hid hgt
  have HL := Lib.hid hgl
  have hin : inB (S : Int) 3 1021 = true := inB_iff.2 (by omega)
  clear hev hS hgt hgl
  go_enter Tryz.func191, Tryz.ntmps191
  go_wp2_with fail
  refine (inRange_any _ _ _ _).mono ?_
  rw [hin]
  rintro e w' ⟨rfl, rfl⟩
  go_wp2_with fail
  refine (isPrime_even _ _ (by omega) (by omega) HE.out).mono ?_
  rintro e w' ⟨rfl, rfl⟩
  go_wp2_with fail
  obtain ⟨W, hW⟩ : ∃ W, W = w.alloc (.cells #[.int .i64 0, .int .i64 0, .int .i64 0] 121 (0, 0)) := ⟨_, rfl⟩
  rw [← hW]
  have HB0 := Lib.hid (show Below w.heap.size w W by rw [hW]; exact ba1 _ _)
  have hr := heap_cellR (show W.heap[w.heap.size]? = some (.cells #[.int .i64 0, .int .i64 0, .int .i64 0] 121 (0, 0)) by rw [hW]; exact push_at _ _)
  have HR := Lib.hid (show W.heap[w.heap.size]? = some (.cells #[.int .i64 0, .int .i64 0, .int .i64 0] 121 (0, 0)) by rw [hW]; exact push_at _ _)
  have hlt0 : w.heap.size < W.heap.size := by rw [hW]; simp
  clear hW
  go_loopw [7, 8, 9] (fun p _ _ wr => ∃ k' : Nat, 3 ≤ k' ∧ k' ≤ k ∧ p = .int .i64 k' ∧ wr = W) (fun p _ _ _ => k - (intOf p).toNat)
  case atStart => exact ⟨3, by omega, by omega, rfl, rfl⟩
  case round =>
    obtain ⟨k', hk3, hk, rfl, hwr⟩ := hrel
    obtain rfl : W = wr := hwr.symm
    obtain ⟨P, hP⟩ : ∃ P : Nat, P = 2 ^ k' := ⟨_, rfl⟩
    have hPb : P ≤ S := by rw [hP, HS.out]; exact Nat.pow_le_pow_right (by omega) hk
    have hw : wrap64 ((2 : Int) ^ k') = (P : Int) := by
      have hc : ((2 : Int) ^ k') = ((2 ^ k' : Nat) : Int) := by push_cast; rfl
      rw [hc, ← hP]; unfold wrap64; omega
    have hk8 : (k' : Int) ≤ 8 := by omega
    by_cases hlt : k' < k
    · have hne : P < S := by rw [hP, HS.out]; exact Nat.pow_lt_pow_right (by omega) hlt
      have hb : (((S : Nat) : Int) != (P : Int)) = true := by rw [bne_iff_ne]; omega
      clear hP
      go_wp2_with fail
      exact ⟨⟨k' + 1, by omega, by omega, by go_num, trivial⟩, by simp [intOf]; omega⟩
    · obtain rfl : k' = k := by omega
      have hPS : P = S := by rw [hP, HS.out]
      subst hPS
      have hb : (((P : Nat) : Int) != (P : Int)) = false := by simp
      clear hP
      go_wp2_with fail
      go_loopw [8, 9] (fun p _ wr => ∃ p' : Nat, P ≤ p' ∧ p' ≤ g ∧ p = .int .i64 p' ∧ Below W.heap.size W wr) (fun p _ _ => g + 1 - (intOf p).toNat)
      case atStart => exact ⟨P, Nat.le_refl _, hg1, rfl, Below.refl _ _⟩
      case round =>
        obtain ⟨p', hp1, hp2, rfl, hb2⟩ := hrel
        have HB := Lib.hid hb2
        have hlt2 : decide ((p' : Int) < 2 * (P : Int)) = true := by simp; omega
        clear hb2
        by_cases hpg : p' < g
        · have HF := Lib.hid (show fldB 2 (k' : Int) (p' : Int) = false from HL.out p' hp1 hpg)
          go_wp2_with fail
          refine (isField_two _ _ _).mono ?_
          rw [HF.out]
          rintro e w2 ⟨rfl, hb3⟩
          have HB2 := Lib.hid (bt0 HB.out (bt1 hb3) (Nat.le_refl _))
          clear hb3
          go_wp2_with fail
          exact ⟨⟨p' + 1, by omega, by omega, by go_num, HB2.out⟩, by simp [intOf]; omega⟩
        · obtain rfl : p' = g := by omega
          go_wp2_with fail
          refine (isField_two _ _ _).mono ?_
          rw [HT.out]
          rintro e w2 ⟨rfl, hb3⟩
          obtain ⟨hx, hf⟩ := heap_cellR (blkK hb3 (push_at wr (.cells #[.int .i64 2, .int .i64 k', .int .i64 p'] 121 (0, 0))))
          have HB2 := Lib.hid (bt0 HB.out (bt1 hb3) (Nat.le_refl _))
          obtain ⟨hr0, hf0⟩ := heap_cellR (blk HB2.out HR.out hlt0)
          clear hb3 hr
          go_wp2_with fail
          refine bodyPost_ret (v := .tuple #[.agg #[.int .i64 2, .int .i64 k', .int .i64 p'], .int .i64 0]) (by simp [results, Tryz.results191, go_sem, hr0]) rfl ⟨rfl, ?_⟩
          iterate 3 (refine Below.setCell ?_ (by dsimp only; omega) _)
          exact HB0.out.trans (HB2.out.mono HB0.out.size)

set_option maxRecDepth 100000 in
theorem least5 : Least 5 37 := by
  refine ⟨by decide, by decide, by decide, by decide, by decide +kernel, fun p h1 h2 => ?_⟩
  have h3 : p = 32 ∨ p = 33 ∨ p = 34 ∨ p = 35 ∨ p = 36 := by omega
  rcases h3 with rfl | rfl | rfl | rfl | rfl <;> decide +kernel
theorem fieldOf_32 (w : World) :
    Calls Tryz.prog 191 #[.int .i64 32] w fun e w' => e = .returned (.tuple #[.agg #[.int .i64 2, .int .i64 5, .int .i64 37], .int .i64 0]) ∧ Below w.heap.size w w' := fieldOf_any 32 5 37 rfl least5 w

/-- a list holds a number -/
def hasI (xs : List Int) (n : Int) : Bool := xs.contains n
theorem hasI_no {xs : List Int} {n : Int} (h : ∀ i, i < xs.length → xs.getD i 0 ≠ n) : hasI xs n = false := by
  rw [hasI, Bool.eq_false_iff]
  intro hc
  rw [List.contains_iff_mem] at hc
  obtain ⟨i, hi, e⟩ := List.mem_iff_getElem.1 hc
  exact h i hi (by rw [getD_of (List.getElem?_eq_getElem hi), e])
theorem hasI_yes {xs : List Int} {n : Int} {k : Nat} (h : xs[k]? = some n) : hasI xs n = true := by
  rw [hasI, List.contains_iff_mem]
  exact List.mem_of_getElem? h
/-- an index is handed back, negative if there is none -/
def RetIdx (ok : Bool) (w : World) (e : Ending) (w' : World) : Prop := ∃ k : Int, e = .returned (.int .i64 k) ∧ decide (0 ≤ k) = ok ∧ -1 ≤ k ∧ k ≤ 1099511627776 ∧ w = w'
set_option maxHeartbeats 400000 in
theorem hasLevel_any (nm : ByteArray) (kd p k g : Int) (a1 : Option Addr) (szs : List Int) (c1 : Nat) (cl : Int) (a2 : Option Addr) (lvs : List Int) (c2 : Nat) (n : Int) (w : World) (lx : lvs.length ≤ 1099511627776) :
    Calls Tryz.prog 180 #[(.agg #[.string nm, .int .i64 kd, .int .i64 p, .int .i64 k, .int .i64 g, .slice a1 szs.length c1, .int .i64 cl, .slice a2 lvs.length c2]), .int .i64 n] w fun e w' => e = .returned (.bool (inB n 0 ((lvs.length : Int) - 1))) ∧ Below w.heap.size w w' := by
  go_enter Tryz.func180, Tryz.ntmps180
  go_wp2_with fail
  refine (inRange_any _ _ _ _).mono ?_
  rintro e w' ⟨rfl, rfl⟩
  go_wp2_with fail
  go_ret
  exact ⟨rfl, ba1 _ _⟩

end Go.Proofs.YtlcglclojlffgaaGreatDoor
namespace Go.Proofs.YtlcglclojlffgaaGreatDoor
open Go.RowKit

theorem all_msz_no {l : List Int} {k : Nat} {x : Int} (h : l[k]? = some x) (hx : msz x = false) : l.all msz = false := by
  rw [List.all_eq_false]; exact ⟨x, List.mem_of_getElem? h, by rw [hx]; decide⟩
theorem all_msz_snoc {l : List Int} {k : Nat} {x : Int} (h : l[k]? = some x) (h1 : (l.take k).all msz = true) (hx : msz x = true) : (l.take (k + 1)).all msz = true := by
  rw [take_snoc' h, List.all_append, h1]; simp [hx]
set_option maxRecDepth 100000 in
set_option maxHeartbeats 4000000 in
theorem isFamily_any (nm : ByteArray) (kd p k g : Int) (a1 : Option Addr) (szs : List Int) (c1 : Nat) (cl : Int) (a2 : Option Addr) (lvs : List Int) (c2 : Nat) (w : World) (h1 : IntsAt w a1 szs) (h2 : IntsAt w a2 lvs) (l1 : szs.length ≤ 1048576) (l2 : lvs.length ≤ 1048576) (ln : nm.size ≤ 1048576) (hw : ∀ x ∈ szs, -9223372036854775808 ≤ x ∧ x ≤ 9223372036854775807) :
    Calls Tryz.prog 179 #[(.agg #[.string nm, .int .i64 kd, .int .i64 p, .int .i64 k, .int .i64 g, .slice a1 szs.length c1, .int .i64 cl, .slice a2 lvs.length c2])] w fun e w' => e = .returned (.bool (Fam.ok ⟨nm, kd, p, k, g, szs, cl, lvs⟩)) ∧ Below w.heap.size w w' := by
  have H1 := Lib.hid h1
  have H2 := Lib.hid h2
  have HW := Lib.hid hw
  clear h1 h2 hw
  have hsl : inB (szs.length : Int) 1 8 = (decide (1 ≤ szs.length) && decide (szs.length ≤ 8)) := by rw [Bool.eq_iff_iff]; simp [inB]; omega
  have hll : inB (lvs.length : Int) 1 4 = (decide (1 ≤ lvs.length) && decide (lvs.length ≤ 4)) := by rw [Bool.eq_iff_iff]; simp [inB]; omega
  obtain ⟨ok, hok⟩ : ∃ ok, ok = Fam.ok ⟨nm, kd, p, k, g, szs, cl, lvs⟩ := ⟨_, rfl⟩
  rw [← hok]
  have HOK := Lib.hid (show ok = (nameB nm.data.toList && inB (lvs.length : Int) 1 4 && risB 1 80 lvs && inB (szs.length : Int) 1 8 && if kd = 1 then szs.all msz && fldB p k g && decide (cl = 0) && risB 17 41 szs else if kd = 2 then decide (p = 2) && decide (k = 5) && decide (g = 37) && decide (1 ≤ cl) && decide (cl ≤ 8) && risB 3 24 szs else false) by
    rw [hok, hsl, hll]; simp only [Fam.ok, Bool.and_assoc])
  clear hsl hll hok
  rcases Bool.eq_false_or_eq_true (nameB nm.data.toList) with n1 | n1
  · rcases Bool.eq_false_or_eq_true (inB (szs.length : Int) 1 8) with n2 | n2
    · rcases Bool.eq_false_or_eq_true (inB (lvs.length : Int) 1 4) with n3 | n3
      · rcases Bool.eq_false_or_eq_true (risB 1 80 lvs) with n4 | n4
        · by_cases k1 : kd = 1
          · subst k1
            have HOK2 := Lib.hid (show ok = (szs.all msz && fldB p k g && decide (cl = 0) && risB 17 41 szs) by rw [HOK.out, n1, n2, n3, n4, if_pos rfl]; rfl)
            go_enter Tryz.func179, Tryz.ntmps179
            go_wp2_with fail
            refine (isName_any nm _ ln).mono ?_
            rw [n1]
            rintro e w' ⟨rfl, rfl⟩
            go_wp2_with fail
            refine (inRange_any _ _ _ _).mono ?_
            rw [n2]
            rintro e w' ⟨rfl, rfl⟩
            go_wp2_with fail
            refine (inRange_any _ _ _ _).mono ?_
            rw [n3]
            rintro e w' ⟨rfl, rfl⟩
            go_wp2_with fail
            refine (rises_any 1 80 a2 lvs c2 _ (H2.out.below (ba1 _ _)) (by omega)).mono ?_
            rw [n4]
            rintro e w' ⟨rfl, rfl⟩
            go_wp2_with fail
            go_loop [4, 38] (fun _ i => ∃ j : Nat, j ≤ szs.length ∧ i = .int .i64 j ∧ (szs.take j).all msz = true) (fun _ i => szs.length - (intOf i).toNat)
            case atStart => exact ⟨0, Nat.zero_le _, rfl, rfl⟩
            case round =>
              obtain ⟨j, hj, rfl, hall⟩ := hrel
              have HA := Lib.hid hall
              clear hall
              by_cases hlt : j < szs.length
              · obtain ⟨b1, o1, x, rfl, hxk, hb1, hc1⟩ := (H1.out.below (ba1 w (.cells #[.string nm, .int .i64 1, .int .i64 p, .int .i64 k, .int .i64 g, .slice a1 szs.length c1, .int .i64 cl, .slice a2 lvs.length c2] 123 (0, 0)))).at hlt
                have hji : (j : Int) < (szs.length : Int) := by omega
                have HXK := Lib.hid hxk
                have hxr := HW.out x (List.mem_of_getElem? hxk)
                clear hxk
                rcases Bool.eq_false_or_eq_true (msz x) with hm | hm
                · go_wp2_with fail
                  refine (isMsz_any x _ hxr.1 hxr.2).mono ?_
                  rw [hm]
                  rintro e w' ⟨rfl, rfl⟩
                  go_wp2_with fail
                  exact ⟨⟨j + 1, by omega, by go_num, all_msz_snoc HXK.out HA.out hm⟩, by simp [intOf]; omega⟩
                · have HOK3 := Lib.hid (show ok = false by rw [HOK2.out, all_msz_no HXK.out hm]; simp)
                  go_wp2_with fail
                  refine (isMsz_any x _ hxr.1 hxr.2).mono ?_
                  rw [hm]
                  rintro e w' ⟨rfl, rfl⟩
                  go_wp2_with fail
                  go_ret
                  exact ⟨ret_bool HOK3.out.symm, ba1 _ _⟩
              · have hji : ¬ (j : Int) < (szs.length : Int) := by omega
                have HAll : Hid (szs.all msz = true) := Lib.hid (by have := HA.out; rwa [List.take_of_length_le (by omega)] at this)
                by_cases p2 : p = 2
                · subst p2
                  rcases Bool.eq_false_or_eq_true (fldB 2 k g) with f1 | f1
                  · by_cases c0 : cl = 0
                    · subst c0
                      have HOK3 := Lib.hid (show ok = risB 17 41 szs by rw [HOK2.out, HAll.out, f1]; simp)
                      go_wp2_with fail
                      refine (isField_two k g _).mono ?_
                      rw [f1]
                      rintro e w2 ⟨rfl, hb2⟩
                      have hbox := box1 hb2
                      have hz : w.heap.size < w2.heap.size := by have := hb2.size; simp at this; omega
                      have HB2 := Lib.hid (bt1 hb2)
                      clear hb2
                      go_wp2_with fail
                      refine (rises_any 17 41 a1 szs c1 _ (H1.out.below HB2.out) (by omega)).mono ?_
                      rintro e w' ⟨rfl, rfl⟩
                      go_wp2_with fail
                      go_ret
                      exact ⟨ret_bool HOK3.out.symm, HB2.out⟩
                    · have c0' : (cl == 0) = false := by rw [beq_eq_false_iff_ne]; exact c0
                      have HOK3 := Lib.hid (show ok = false by rw [HOK2.out, decide_eq_false c0]; simp)
                      clear c0
                      go_wp2_with fail
                      refine (isField_two k g _).mono ?_
                      rw [f1]
                      rintro e w2 ⟨rfl, hb2⟩
                      have hbox := box1 hb2
                      have hz : w.heap.size < w2.heap.size := by have := hb2.size; simp at this; omega
                      have HB2 := Lib.hid (bt1 hb2)
                      clear hb2
                      go_wp2_with fail
                      go_ret
                      exact ⟨ret_bool HOK3.out.symm, HB2.out⟩
                  · have HOK3 := Lib.hid (show ok = false by rw [HOK2.out, f1]; simp)
                    go_wp2_with fail
                    refine (isField_two k g _).mono ?_
                    rw [f1]
                    rintro e w2 ⟨rfl, hb2⟩
                    have hbox := box1 hb2
                    have hz : w.heap.size < w2.heap.size := by have := hb2.size; simp at this; omega
                    have HB2 := Lib.hid (bt1 hb2)
                    clear hb2
                    go_wp2_with fail
                    go_ret
                    exact ⟨ret_bool HOK3.out.symm, HB2.out⟩
                · have p2' : (p == 2) = false := by rw [beq_eq_false_iff_ne]; exact p2
                  have HOK3 := Lib.hid (show ok = false by rw [HOK2.out, fldB, decide_eq_false p2]; simp)
                  clear p2
                  go_wp2_with fail
                  go_ret
                  exact ⟨ret_bool HOK3.out.symm, ba1 _ _⟩
          · have k1' : (kd == 1) = false := by rw [beq_eq_false_iff_ne]; exact k1
            by_cases k2 : kd = 2
            · subst k2
              have HOK2 := Lib.hid (show ok = (decide (p = 2) && decide (k = 5) && decide (g = 37) && decide (1 ≤ cl) && decide (cl ≤ 8) && risB 3 24 szs) by rw [HOK.out, n1, n2, n3, n4, if_neg (by decide), if_pos rfl]; rfl)
              clear k1 HOK
              by_cases e1 : p = 2
              · subst e1
                by_cases e2 : k = 5
                · subst e2
                  by_cases e3 : g = 37
                  · subst e3
                    rcases Bool.eq_false_or_eq_true (inB cl 1 8) with e4 | e4
                    · have hcl := inB_iff.1 e4
                      have HOK3 := Lib.hid (show ok = risB 3 24 szs by rw [HOK2.out, decide_eq_true hcl.1, decide_eq_true hcl.2]; simp)
                      go_enter Tryz.func179, Tryz.ntmps179
                      go_wp2_with fail
                      refine (isName_any nm _ ln).mono ?_
                      rw [n1]
                      rintro e w' ⟨rfl, rfl⟩
                      go_wp2_with fail
                      refine (inRange_any _ _ _ _).mono ?_
                      rw [n2]
                      rintro e w' ⟨rfl, rfl⟩
                      go_wp2_with fail
                      refine (inRange_any _ _ _ _).mono ?_
                      rw [n3]
                      rintro e w' ⟨rfl, rfl⟩
                      go_wp2_with fail
                      refine (rises_any 1 80 a2 lvs c2 _ (H2.out.below (ba1 _ _)) (by omega)).mono ?_
                      rw [n4]
                      rintro e w' ⟨rfl, rfl⟩
                      go_wp2_with fail
                      refine (fieldOf_32 _).mono ?_
                      rintro e w2 ⟨rfl, hb2⟩
                      have hbox := box1 hb2
                      have hz : w.heap.size < w2.heap.size := by have := hb2.size; simp at this; omega
                      have HB2 := Lib.hid (bt1 hb2)
                      clear hb2
                      go_wp2_with fail
                      refine (inRange_any _ _ _ _).mono ?_
                      rw [e4]
                      rintro e w' ⟨rfl, rfl⟩
                      go_wp2_with fail
                      refine (rises_any 3 24 a1 szs c1 _ (H1.out.below (bt0 HB2.out (ba1 _ _) (Nat.le_refl _))) (by omega)).mono ?_
                      rintro e w' ⟨rfl, rfl⟩
                      go_wp2_with fail
                      go_ret
                      exact ⟨ret_bool HOK3.out.symm, bt0 HB2.out (ba1 _ _) (Nat.le_refl _)⟩
                    · have hcl := inB_not.1 e4
                      have HOK3 := Lib.hid (show ok = false by rw [HOK2.out]; rcases hcl with h | h <;> simp <;> omega)
                      go_enter Tryz.func179, Tryz.ntmps179
                      go_wp2_with fail
                      refine (isName_any nm _ ln).mono ?_
                      rw [n1]
                      rintro e w' ⟨rfl, rfl⟩
                      go_wp2_with fail
                      refine (inRange_any _ _ _ _).mono ?_
                      rw [n2]
                      rintro e w' ⟨rfl, rfl⟩
                      go_wp2_with fail
                      refine (inRange_any _ _ _ _).mono ?_
                      rw [n3]
                      rintro e w' ⟨rfl, rfl⟩
                      go_wp2_with fail
                      refine (rises_any 1 80 a2 lvs c2 _ (H2.out.below (ba1 _ _)) (by omega)).mono ?_
                      rw [n4]
                      rintro e w' ⟨rfl, rfl⟩
                      go_wp2_with fail
                      refine (fieldOf_32 _).mono ?_
                      rintro e w2 ⟨rfl, hb2⟩
                      have hbox := box1 hb2
                      have hz : w.heap.size < w2.heap.size := by have := hb2.size; simp at this; omega
                      have HB2 := Lib.hid (bt1 hb2)
                      clear hb2
                      go_wp2_with fail
                      refine (inRange_any _ _ _ _).mono ?_
                      rw [e4]
                      rintro e w' ⟨rfl, rfl⟩
                      go_wp2_with fail
                      go_ret
                      exact ⟨ret_bool HOK3.out.symm, bt0 HB2.out (ba1 _ _) (Nat.le_refl _)⟩
                  · have HOK3 := Lib.hid (show ok = false by rw [HOK2.out, decide_eq_false e3]; simp)
                    go_enter Tryz.func179, Tryz.ntmps179
                    go_wp2_with fail
                    refine (isName_any nm _ ln).mono ?_
                    rw [n1]
                    rintro e w' ⟨rfl, rfl⟩
                    go_wp2_with fail
                    refine (inRange_any _ _ _ _).mono ?_
                    rw [n2]
                    rintro e w' ⟨rfl, rfl⟩
                    go_wp2_with fail
                    refine (inRange_any _ _ _ _).mono ?_
                    rw [n3]
                    rintro e w' ⟨rfl, rfl⟩
                    go_wp2_with fail
                    refine (rises_any 1 80 a2 lvs c2 _ (H2.out.below (ba1 _ _)) (by omega)).mono ?_
                    rw [n4]
                    rintro e w' ⟨rfl, rfl⟩
                    go_wp2_with fail
                    refine (fieldOf_32 _).mono ?_
                    rintro e w2 ⟨rfl, hb2⟩
                    have hbox := box1 hb2
                    have hz : w.heap.size < w2.heap.size := by have := hb2.size; simp at this; omega
                    have HB2 := Lib.hid (bt1 hb2)
                    clear hb2
                    go_wp2_with fail
                    go_ret
                    exact ⟨ret_bool HOK3.out.symm, bt0 HB2.out (ba1 _ _) (Nat.le_refl _)⟩
                · have HOK3 := Lib.hid (show ok = false by rw [HOK2.out, decide_eq_false e2]; simp)
                  go_enter Tryz.func179, Tryz.ntmps179
                  go_wp2_with fail
                  refine (isName_any nm _ ln).mono ?_
                  rw [n1]
                  rintro e w' ⟨rfl, rfl⟩
                  go_wp2_with fail
                  refine (inRange_any _ _ _ _).mono ?_
                  rw [n2]
                  rintro e w' ⟨rfl, rfl⟩
                  go_wp2_with fail
                  refine (inRange_any _ _ _ _).mono ?_
                  rw [n3]
                  rintro e w' ⟨rfl, rfl⟩
                  go_wp2_with fail
                  refine (rises_any 1 80 a2 lvs c2 _ (H2.out.below (ba1 _ _)) (by omega)).mono ?_
                  rw [n4]
                  rintro e w' ⟨rfl, rfl⟩
                  go_wp2_with fail
                  refine (fieldOf_32 _).mono ?_
                  rintro e w2 ⟨rfl, hb2⟩
                  have hbox := box1 hb2
                  have hz : w.heap.size < w2.heap.size := by have := hb2.size; simp at this; omega
                  have HB2 := Lib.hid (bt1 hb2)
                  clear hb2
                  go_wp2_with fail
                  go_ret
                  exact ⟨ret_bool HOK3.out.symm, bt0 HB2.out (ba1 _ _) (Nat.le_refl _)⟩
              · have HOK3 := Lib.hid (show ok = false by rw [HOK2.out, decide_eq_false e1]; simp)
                go_enter Tryz.func179, Tryz.ntmps179
                go_wp2_with fail
                refine (isName_any nm _ ln).mono ?_
                rw [n1]
                rintro e w' ⟨rfl, rfl⟩
                go_wp2_with fail
                refine (inRange_any _ _ _ _).mono ?_
                rw [n2]
                rintro e w' ⟨rfl, rfl⟩
                go_wp2_with fail
                refine (inRange_any _ _ _ _).mono ?_
                rw [n3]
                rintro e w' ⟨rfl, rfl⟩
                go_wp2_with fail
                refine (rises_any 1 80 a2 lvs c2 _ (H2.out.below (ba1 _ _)) (by omega)).mono ?_
                rw [n4]
                rintro e w' ⟨rfl, rfl⟩
                go_wp2_with fail
                refine (fieldOf_32 _).mono ?_
                rintro e w2 ⟨rfl, hb2⟩
                have hbox := box1 hb2
                have hz : w.heap.size < w2.heap.size := by have := hb2.size; simp at this; omega
                have HB2 := Lib.hid (bt1 hb2)
                clear hb2
                go_wp2_with fail
                go_ret
                exact ⟨ret_bool HOK3.out.symm, bt0 HB2.out (ba1 _ _) (Nat.le_refl _)⟩
            · have k2' : (kd == 2) = false := by rw [beq_eq_false_iff_ne]; exact k2
              have HOK2 := Lib.hid (show ok = false by rw [HOK.out, n1, n2, n3, n4, if_neg k1, if_neg k2]; rfl)
              clear k1 k2
              go_enter Tryz.func179, Tryz.ntmps179
              go_wp2_with fail
              refine (isName_any nm _ ln).mono ?_
              rw [n1]
              rintro e w' ⟨rfl, rfl⟩
              go_wp2_with fail
              refine (inRange_any _ _ _ _).mono ?_
              rw [n2]
              rintro e w' ⟨rfl, rfl⟩
              go_wp2_with fail
              refine (inRange_any _ _ _ _).mono ?_
              rw [n3]
              rintro e w' ⟨rfl, rfl⟩
              go_wp2_with fail
              refine (rises_any 1 80 a2 lvs c2 _ (H2.out.below (ba1 _ _)) (by omega)).mono ?_
              rw [n4]
              rintro e w' ⟨rfl, rfl⟩
              go_wp2_with fail
              go_ret
              exact ⟨ret_bool HOK2.out.symm, ba1 _ _⟩
        · have HOK2 := Lib.hid (show ok = false by rw [HOK.out, n4]; simp)
          go_enter Tryz.func179, Tryz.ntmps179
          go_wp2_with fail
          refine (isName_any nm _ ln).mono ?_
          rw [n1]
          rintro e w' ⟨rfl, rfl⟩
          go_wp2_with fail
          refine (inRange_any _ _ _ _).mono ?_
          rw [n2]
          rintro e w' ⟨rfl, rfl⟩
          go_wp2_with fail
          refine (inRange_any _ _ _ _).mono ?_
          rw [n3]
          rintro e w' ⟨rfl, rfl⟩
          go_wp2_with fail
          refine (rises_any 1 80 a2 lvs c2 _ (H2.out.below (ba1 _ _)) (by omega)).mono ?_
          rw [n4]
          rintro e w' ⟨rfl, rfl⟩
          go_wp2_with fail
          go_ret
          exact ⟨ret_bool HOK2.out.symm, ba1 _ _⟩
      · have HOK2 := Lib.hid (show ok = false by rw [HOK.out, n3]; simp)
        go_enter Tryz.func179, Tryz.ntmps179
        go_wp2_with fail
        refine (isName_any nm _ ln).mono ?_
        rw [n1]
        rintro e w' ⟨rfl, rfl⟩
        go_wp2_with fail
        refine (inRange_any _ _ _ _).mono ?_
        rw [n2]
        rintro e w' ⟨rfl, rfl⟩
        go_wp2_with fail
        refine (inRange_any _ _ _ _).mono ?_
        rw [n3]
        rintro e w' ⟨rfl, rfl⟩
        go_wp2_with fail
        go_ret
        exact ⟨ret_bool HOK2.out.symm, ba1 _ _⟩
    · have HOK2 := Lib.hid (show ok = false by rw [HOK.out, n2]; simp)
      go_enter Tryz.func179, Tryz.ntmps179
      go_wp2_with fail
      refine (isName_any nm _ ln).mono ?_
      rw [n1]
      rintro e w' ⟨rfl, rfl⟩
      go_wp2_with fail
      refine (inRange_any _ _ _ _).mono ?_
      rw [n2]
      rintro e w' ⟨rfl, rfl⟩
      go_wp2_with fail
      go_ret
      exact ⟨ret_bool HOK2.out.symm, ba1 _ _⟩
  · have HOK2 := Lib.hid (show ok = false by rw [HOK.out, n1]; simp)
    go_enter Tryz.func179, Tryz.ntmps179
    go_wp2_with fail
    refine (isName_any nm _ ln).mono ?_
    rw [n1]
    rintro e w' ⟨rfl, rfl⟩
    go_wp2_with fail
    go_ret
    exact ⟨ret_bool HOK2.out.symm, ba1 _ _⟩

end Go.Proofs.YtlcglclojlffgaaGreatDoor
namespace Go.Proofs.YtlcglclojlffgaaGreatDoor
open Go.RowKit

set_option maxHeartbeats 400000 in
theorem fieldSize_any {p k g : Int} {F : Fd} (h : FV p k g F) (w : World) :
    Calls Tryz.prog 196 #[.agg #[.int .i64 p, .int .i64 k, .int .i64 g]] w fun e w' => e = .returned (.int .i64 F.q) ∧ Below w.heap.size w w' := by
  have H := Lib.hid h
  clear h
  go_enter Tryz.func196, Tryz.ntmps196
  go_wp2_with fail
  refine (calc_fv H.out _).mono ?_
  rintro e w1 ⟨hb1, a1, rfl, ha⟩
  obtain ⟨b, rfl, -, hA⟩ := ha rfl
  have hqc := hA.cell.2.1
  have HB := Lib.hid (bt1 hb1)
  clear hb1 ha hA
  go_wp2_with fail
  go_ret
  exact ⟨rfl, HB.out⟩
set_option maxHeartbeats 400000 in
theorem fieldWidth_any {p k g : Int} {F : Fd} (h : FV p k g F) (w : World) :
    Calls Tryz.prog 209 #[.agg #[.int .i64 p, .int .i64 k, .int .i64 g]] w fun e w' => e = .returned (.int .i64 F.k) ∧ Below w.heap.size w w' := by
  have H := Lib.hid h
  clear h
  go_enter Tryz.func209, Tryz.ntmps209
  go_wp2_with fail
  refine (calc_fv H.out _).mono ?_
  rintro e w1 ⟨hb1, a1, rfl, ha⟩
  obtain ⟨b, rfl, -, hA⟩ := ha rfl
  have HA := Lib.hid hA
  have HB := Lib.hid (bt1 hb1)
  clear hb1 ha hA
  go_wp2_with fail
  refine (width_any F H.out.fd b _ HA.out).mono ?_
  rintro e w2 h2
  obtain ⟨rfl, hb2⟩ := h2.below
  have HB2 := Lib.hid (bt0 HB.out hb2 (Nat.le_refl _))
  clear h2 hb2
  go_wp2_with fail
  go_ret
  exact ⟨rfl, HB2.out⟩

end Go.Proofs.YtlcglclojlffgaaGreatDoor
namespace Go.Proofs.YtlcglclojlffgaaGreatDoor
open Go.RowKit

theorem calls_extB {P : Program} {f : FuncId} {args : Array Value} {w : World} {v : Value} (s : Ext w) {B : Nat} (hB : s.w.heap.size ≤ B)
    (h : Calls P f args s.w fun e w' => e = .returned v ∧ Below B s.w w') : Calls P f args s.w fun e w'' => e = .returned v ∧ ∃ s' : Ext w, w'' = s'.w :=
  calls_ext s (h.mono fun _ _ ⟨he, hb⟩ => ⟨he, hb.mono hB⟩)
/-- what a valid family says in numbers -/
theorem fam_ok {nm : ByteArray} {kd p k g : Int} {szs : List Int} {cl : Int} {lvs : List Int} (h : Fam.ok ⟨nm, kd, p, k, g, szs, cl, lvs⟩ = true) :
    fldB p k g = true ∧ (1 ≤ lvs.length ∧ lvs.length ≤ 4) ∧ risB 1 80 lvs = true ∧ (1 ≤ szs.length ∧ szs.length ≤ 8) ∧
      ((kd = 1 ∧ szs.all msz = true ∧ cl = 0) ∨ (kd = 2 ∧ p = 2 ∧ k = 5 ∧ g = 37 ∧ (1 ≤ cl ∧ cl ≤ 8) ∧ risB 3 24 szs = true)) := by
  simp only [Fam.ok, Bool.and_eq_true, decide_eq_true_eq] at h
  obtain ⟨⟨⟨⟨⟨⟨h1, h2⟩, h3⟩, h4⟩, h5⟩, h6⟩, h7⟩ := h
  by_cases k1 : kd = 1
  · rw [if_pos k1] at h7
    simp only [Bool.and_eq_true, decide_eq_true_eq] at h7
    obtain ⟨⟨⟨h8, h9⟩, h10⟩, h11⟩ := h7
    exact ⟨h9, ⟨h2, h3⟩, h4, ⟨h5, h6⟩, .inl ⟨k1, h8, h10⟩⟩
  · rw [if_neg k1] at h7
    by_cases k2 : kd = 2
    · rw [if_pos k2] at h7
      simp only [Bool.and_eq_true, decide_eq_true_eq] at h7
      obtain ⟨⟨⟨⟨⟨h8, h9⟩, h10⟩, h11⟩, h12⟩, h13⟩ := h7
      subst h8 h9 h10
      exact ⟨least5.2.2.2.2.1, ⟨h2, h3⟩, h4, ⟨h5, h6⟩, .inr ⟨k2, rfl, rfl, rfl, ⟨h11, h12⟩, h13⟩⟩
    · rw [if_neg k2] at h7
      cases h7
theorem ris_in {lo hi : Int} {l : List Int} (h : risB lo hi l = true) {x : Int} (hx : x ∈ l) : lo ≤ x ∧ x ≤ hi := by
  rw [risB, decide_eq_true_eq] at h
  obtain ⟨i, hi', rfl⟩ := List.mem_iff_getElem.1 hx
  have h1 := (h i hi').1
  rwa [List.getD_eq_getElem?_getD, List.getElem?_eq_getElem hi'] at h1
theorem hasI_mem {xs : List Int} {n : Int} (h : hasI xs n = true) : n ∈ xs := by simpa [hasI] using h
/-- the number of elements: bounds -/
theorem elems_bd {nm : ByteArray} {kd p k g : Int} {szs : List Int} {cl : Int} {lvs : List Int} {n : Int} (h : Fam.ok ⟨nm, kd, p, k, g, szs, cl, lvs⟩ = true) (hn : hasI szs n = true) :
    3 ≤ Fam.elems ⟨nm, kd, p, k, g, szs, cl, lvs⟩ n ∧ Fam.elems ⟨nm, kd, p, k, g, szs, cl, lvs⟩ n ≤ 1408 := by
  obtain ⟨h1, h2, h3, h4, h5⟩ := fam_ok h
  have hf := fldB_ok h1
  have hk := hf.k
  have hk3 := hf.k3
  have hk8 := hf.k8
  have hm := hasI_mem hn
  unfold Fam.elems
  dsimp only
  rcases h5 with ⟨rfl, h6, h7⟩ | ⟨rfl, -, -, -, h6, h7⟩
  · rw [if_neg (by decide)]
    have hd := dcnt_bd n
    rw [hk]
    obtain ⟨K, hK⟩ : ∃ K, K = (bF k.toNat g.toNat).k := ⟨_, rfl⟩
    rw [← hK] at hk3 hk8 ⊢
    have e : ((dcnt n : Int) / (K : Int)) = ((dcnt n / K : Nat) : Int) := by push_cast; rfl
    rw [e]
    have h8 : 8 * K ≤ dcnt n := by omega
    have h9 : 8 ≤ dcnt n / K := (Nat.le_div_iff_mul_le (by omega)).2 h8
    have h10 := Nat.div_le_self (dcnt n) K
    omega
  · rw [if_pos rfl]
    have h8 := ris_in h7 hm
    have h9 : 3 * 1 ≤ n * cl := Int.mul_le_mul h8.1 h6.1 (by omega) (by omega)
    have h10 : n * cl ≤ 24 * 8 := Int.mul_le_mul h8.2 h6.2 (by omega) (by omega)
    omega

set_option maxRecDepth 100000 in
set_option maxHeartbeats 2000000 in
theorem elements_any (nm : ByteArray) (kd p k g : Int) (a1 : Option Addr) (szs : List Int) (c1 : Nat) (cl : Int) (a2 : Option Addr) (lvs : List Int) (c2 : Nat) (n : Int) (w : World) (h : Fam.ok ⟨nm, kd, p, k, g, szs, cl, lvs⟩ = true) (hn : hasI szs n = true) :
    Calls Tryz.prog 195 #[(.agg #[.string nm, .int .i64 kd, .int .i64 p, .int .i64 k, .int .i64 g, .slice a1 szs.length c1, .int .i64 cl, .slice a2 lvs.length c2]), .int .i64 n] w fun e w' => e = .returned (.int .i64 (Fam.elems ⟨nm, kd, p, k, g, szs, cl, lvs⟩ n)) ∧ Below w.heap.size w w' := by
  have hbd := elems_bd h hn
  obtain ⟨E, hE⟩ : ∃ E, E = Fam.elems ⟨nm, kd, p, k, g, szs, cl, lvs⟩ n := ⟨_, rfl⟩
  rw [← hE] at hbd ⊢
  obtain ⟨h1, h2, h3, h4, h5⟩ := fam_ok h
  have hm := hasI_mem hn
  unfold Fam.elems at hE
  dsimp only at hE
  have HE := Lib.hid hE
  clear hE
  rcases h5 with ⟨rfl, h6, h7⟩ | ⟨rfl, -, -, -, h6, h7⟩
  · have HS := Lib.hid (List.all_eq_true.1 h6 n hm)
    have hb := msz_bd HS.out
    rw [if_neg (by decide)] at HE
    have HF := Lib.hid (fv_of h1)
    have hk := HF.out.ok.k
    have hk3 := HF.out.ok.k3
    have hk8 := HF.out.ok.k8
    obtain ⟨F, hFe⟩ : ∃ F, F = bF k.toNat g.toNat := ⟨_, rfl⟩
    rw [← hFe] at HF hk hk3 hk8
    have HK := Lib.hid hk
    have hd := dcnt_bd n
    obtain ⟨D, hD⟩ : ∃ D, D = dcnt n := ⟨_, rfl⟩
    rw [← hD] at hd HE
    have HD := Lib.hid (show (if msz n = true then (dcnt n : Int) else 0) = (D : Int) by rw [if_pos HS.out, hD])
    obtain ⟨K, hKe⟩ : ∃ K, K = F.k := ⟨_, rfl⟩
    rw [← hKe] at hk3 hk8 HK
    have HKe := Lib.hid hKe
    rw [HK.out] at HE
    have hq : (0 : Int) ≤ (D : Int) / (K : Int) ∧ (D : Int) / (K : Int) ≤ 1408 := by rw [← HE.out]; omega
    have hK0 : ((K : Int) == 0) = false := by rw [beq_eq_false_iff_ne]; omega
    clear h1 h2 h3 h4 h6 h7 hm hk hFe hD hKe
    go_enter Tryz.func195, Tryz.ntmps195
    go_wp2_with fail
    refine wp_region_ext (by kernel_rfl) (by kernel_rfl) ?_
    repeat (go_big_quiet_step ((first
      | ((go_at_call 208; go_must (refine calls_ext _ ((dataCount_any n _ (by omega) (by omega)).mono (R' := fun e w' => e = .returned (.int .i64 (D : Int)) ∧ _) (fun e w' h => ⟨by rw [h.1, HD.out], h.2⟩)))))
      | ((go_at_call 209; go_must (refine calls_ext _ ((fieldWidth_any HF.out _).mono (R' := fun e w' => e = .returned (.int .i64 (K : Int)) ∧ _) (fun e w' h => ⟨by rw [h.1, HKe.out], h.2⟩))))))))
    refine wpQuiet_nil ?_
    rintro _ ⟨s, rfl⟩
    go_wp2_with fail
    go_ret
    exact ⟨ret_int HE.out.symm, bt0 (ba1 _ _) s.below (Nat.le_refl _)⟩
  · rw [if_pos rfl] at HE
    have HW := Lib.hid (show wrap64 (n * cl) = E by rw [← HE.out]; unfold wrap64; omega)
    clear h1 h2 h3 h4 h6 h7 hm
    go_enter Tryz.func195, Tryz.ntmps195
    go_wp2_with fail
    go_ret
    exact ⟨ret_int HW.out, ba1 _ _⟩

end Go.Proofs.YtlcglclojlffgaaGreatDoor
namespace Go.Proofs.YtlcglclojlffgaaGreatDoor
open Go.RowKit

set_option maxRecDepth 100000 in
set_option maxHeartbeats 2000000 in
theorem layout_any (nm : ByteArray) (kd p k g : Int) (a1 : Option Addr) (szs : List Int) (c1 : Nat) (cl : Int) (a2 : Option Addr) (lvs : List Int) (c2 : Nat) (n lev : Int) (w : World) (h : Fam.ok ⟨nm, kd, p, k, g, szs, cl, lvs⟩ = true) (hn : hasI szs n = true) (hl : 0 ≤ lev ∧ lev < lvs.length) (hx : IntsAt w a2 lvs) (L : Lay) (hL : Fam.lay ⟨nm, kd, p, k, g, szs, cl, lvs⟩ n lev = L) :
    Calls Tryz.prog 183 #[(.agg #[.string nm, .int .i64 kd, .int .i64 p, .int .i64 k, .int .i64 g, .slice a1 szs.length c1, .int .i64 cl, .slice a2 lvs.length c2]), .int .i64 n, .int .i64 lev] w fun e w' => e = .returned (.agg #[.int .i64 p, .int .i64 k, .int .i64 g, .int .i64 L.data, .int .i64 L.checks, .int .i64 L.count]) ∧ Below w.heap.size w w' := by
  have hbd := elems_bd h hn
  obtain ⟨E, hE⟩ : ∃ E, E = Fam.elems ⟨nm, kd, p, k, g, szs, cl, lvs⟩ n := ⟨_, rfl⟩
  have HEe := Lib.hid hE
  rw [← hE] at hbd
  obtain ⟨h1, h2, h3, -, -⟩ := fam_ok h
  have HF := Lib.hid (fv_of h1)
  have hq := HF.out.fd.q_bd
  obtain ⟨Q, hQ⟩ : ∃ Q, Q = (bF k.toNat g.toNat).q := ⟨_, rfl⟩
  have HQ := Lib.hid hQ
  rw [← hQ] at hq
  obtain ⟨lv, rfl⟩ := Int.eq_ofNat_of_zero_le hl.1
  have hll : lv < lvs.length := by omega
  have hlvi : (lv : Int) < (lvs.length : Int) := hl.2
  obtain ⟨b1, o1, v, rfl, hv, hlb, hc1⟩ := hx.at hll
  have hvb := ris_in h3 (List.mem_of_getElem? hv)
  have HX := Lib.hid hx
  -- the numbers
  have hm : (if (255 : Int) < (Q : Int) - 1 then 255 else (Q : Int) - 1) = (Q : Int) - 1 := by rw [if_neg (by omega)]
  obtain ⟨C, hC⟩ : ∃ C, (E + ((Q : Int) - 1) - 1) / ((Q : Int) - 1) = C := ⟨_, rfl⟩
  have hCb : 1 ≤ C ∧ C ≤ 1700 := by
    rw [← hC]
    refine ⟨(Int.le_ediv_iff_mul_le (by omega)).2 (by omega), Int.le_trans (Int.ediv_le_self _ (by omega)) (by omega)⟩
  have hTb : 3 * 1 ≤ E * v ∧ E * v ≤ 1408 * 80 := ⟨Int.mul_le_mul hbd.1 hvb.1 (by omega) (by omega), Int.mul_le_mul hbd.2 hvb.2 (by omega) (by omega)⟩
  obtain ⟨T, hT⟩ : ∃ T, E * v = T := ⟨_, rfl⟩
  rw [hT] at hTb
  have hw1 : wrap64 (E * v) = T := by rw [hT]; unfold wrap64; omega
  obtain ⟨X, hX⟩ : ∃ X, T / 100 / C = X := ⟨_, rfl⟩
  have hXb : 0 ≤ X ∧ X ≤ 112640 := by
    rw [← hX]
    refine ⟨Int.ediv_nonneg (by omega) (by omega), Int.le_trans (Int.ediv_le_self _ (by omega)) (by omega)⟩
  obtain ⟨Y, hY⟩ : ∃ Y, (if X < 64 then X else 64) = Y := ⟨_, rfl⟩
  have hYb : 0 ≤ Y ∧ Y ≤ 64 := by rw [← hY]; split <;> omega
  obtain ⟨K, hK⟩ : ∃ K, (if 2 < Y then Y else 2) = K := ⟨_, rfl⟩
  have hKb : 2 ≤ K ∧ K ≤ 64 := by rw [← hK]; split <;> omega
  have hRb : 1 * 2 ≤ C * K ∧ C * K ≤ 1700 * 64 := ⟨Int.mul_le_mul hCb.1 hKb.1 (by omega) (by omega), Int.mul_le_mul hCb.2 hKb.2 (by omega) (by omega)⟩
  obtain ⟨R, hR⟩ : ∃ R, C * K = R := ⟨_, rfl⟩
  rw [hR] at hRb
  have hw2 : wrap64 (C * K) = R := by rw [hR]; unfold wrap64; omega
  have HL := Lib.hid (show L = ⟨E - R, K, C⟩ by
    have e0 : ((2 ^ k.toNat : Nat) : Int) = (Q : Int) := by rw [hQ]; rfl
    have e1 : lvs.getD (((lv : Nat) : Int)).toNat 0 = v := by rw [Int.toNat_natCast, List.getD_eq_getElem?_getD, hv]; rfl
    rw [← hL]
    unfold Fam.lay
    dsimp only
    rw [← hE, e0, e1, if_pos (by omega), hC, hT, hX]
    have e2 : (if X ≤ 64 then X else 64) = Y := by rw [← hY]; split <;> split <;> omega
    rw [e2]
    have e3 : (if 2 ≤ Y then Y else 2) = K := by rw [← hK]; split <;> split <;> omega
    rw [e3, hR])
  rw [HL.out]
  dsimp only
  have HH := Lib.hid h
  have HN := Lib.hid hn
  clear h hn h1 h2 h3 hx hv hQ hE hL hT hR
  go_enter Tryz.func183, Tryz.ntmps183
  go_wp2_with fail
  refine (elements_any nm kd p k g a1 szs c1 cl _ lvs c2 n _ HH.out HN.out).mono ?_
  rintro e w1 ⟨rfl, hb1⟩
  rw [← HEe.out]
  have e2 := heap2 w (.cells #[.string nm, .int .i64 kd, .int .i64 p, .int .i64 k, .int .i64 g, .slice a1 szs.length c1, .int .i64 cl, .slice (some ⟨b1, o1, none⟩) lvs.length c2] 123 (0, 0)) (.cells #[.int .i64 0, .int .i64 0, .int .i64 0, .int .i64 0, .int .i64 0, .int .i64 0] 146 (0, 0))
  have k1 := blkK hb1 e2.1
  have k2 := blkK hb1 e2.2
  have K1 := Lib.hid k1
  have K2 := Lib.hid k2
  obtain ⟨hcA, hfA⟩ := heap_cellR k1
  have HB1 := Lib.hid (bt2 hb1)
  have z1 := blkLt k1
  clear hb1 e2 k1 k2
  go_wp2_with fail
  refine ((fieldSize_any HF.out _).mono (R' := fun e w' => e = .returned (.int .i64 (Q : Int)) ∧ Below w1.heap.size w1 w') (fun e w' h => ⟨by rw [h.1, HQ.out], h.2⟩)).mono ?_
  rintro e w2 ⟨rfl, hb2⟩
  have k1 := blkK hb2 K1.out
  have k2 := blkK hb2 K2.out
  have HB2 := Lib.hid (bt0 HB1.out hb2 (Nat.le_refl _))
  have hc2 := (HB2.out.cell (p := ⟨b1, o1 + lv, none⟩) hlb).trans hc1
  clear hcA hfA hc1
  obtain ⟨hcA, hfA⟩ := heap_cellR k1
  obtain ⟨hcB, hfB⟩ := heap_cellR k2
  have y1 := blkLt k1
  have y2 := blkLt k2
  clear hb2 k1 k2
  go_wp2_with fail
  refine bodyPost_ret (v := .agg #[.int .i64 p, .int .i64 k, .int .i64 g, .int .i64 (E - R), .int .i64 K, .int .i64 C]) (by simp [results, Tryz.results183, go_sem, hcB]) rfl ⟨rfl, ?_⟩
  iterate 6 (refine Below.setCell ?_ (by dsimp only; omega) _)
  exact HB2.out

end Go.Proofs.YtlcglclojlffgaaGreatDoor
namespace Go.Proofs.YtlcglclojlffgaaGreatDoor
open Go.RowKit

/-- the code of a layout; the layout as a value -/
def layC (f : Fam) (n lev : Int) : Int := if f.ok = true then (if hasI f.sizes n = true ∧ inB lev 0 ((f.levels.length : Int) - 1) = true then (if (f.lay n lev).ok ((2 ^ f.fk.toNat : Nat) : Int) = true then 0 else 3) else 2) else 1
def layA (f : Fam) (n lev : Int) : Value := if layC f n lev = 0 then .agg #[.int .i64 f.fp, .int .i64 f.fk, .int .i64 f.fg, .int .i64 (f.lay n lev).data, .int .i64 (f.lay n lev).checks, .int .i64 (f.lay n lev).count] else .agg #[.int .i64 0, .int .i64 0, .int .i64 0, .int .i64 0, .int .i64 0, .int .i64 0]
end Go.Proofs.YtlcglclojlffgaaGreatDoor
namespace Go.Proofs.YtlcglclojlffgaaGreatDoor

/-- the pattern that fills a payload -/
def patC (k : Nat) : Int := if k % 6 = 0 then 1 else if k % 6 = 1 then 1 else if k % 6 = 3 then 1 else 0
/-- what follows the content: an end, and the pattern -/
def restC (left : Nat) : List Int := List.replicate (min left 3) 0 ++ (List.range (left - min left 3)).map patC
def fillC (bits : List Int) (room : Nat) : List Int := bits ++ restC (room - bits.length)
theorem restC_len (n : Nat) : (restC n).length = n := by
  rw [restC, List.length_append, List.length_replicate, List.length_map, List.length_range]; omega
theorem fillC_len (bits : List Int) (room : Nat) (h : bits.length ≤ room) : (fillC bits room).length = room := by
  rw [fillC, List.length_append, restC_len]; omega
def Bits (l : List Int) : Prop := ∀ b ∈ l, b = 0 ∨ b = 1
theorem Bits.app {l m : List Int} (h : Bits l) (k : Bits m) : Bits (l ++ m) := fun b hb => by
  rcases List.mem_append.1 hb with h1 | h1
  · exact h b h1
  · exact k b h1
theorem bitsC_bits (v w : Nat) : Bits (bitsC v w) := fun b hb => by
  obtain ⟨i, _, rfl⟩ := List.mem_map.1 hb
  omega
theorem grpsF_bits (m : Nat) : ∀ (f : Nat) (t : List UInt8), Bits (grpsF m f t)
  | 0, _ => fun b hb => by simp [grpsF] at hb
  | _ + 1, [] => fun b hb => by simp [grpsF] at hb
  | f + 1, c :: l => (bitsC_bits _ _).app (grpsF_bits m f _)
theorem segB_bits (x : Nat × List UInt8) : Bits (segB x) := ((bitsC_bits _ _).app (bitsC_bits _ _)).app (grpsF_bits _ _ _)
theorem msgB_bits (s : List UInt8) : Bits (msgB s) := fun b hb => by
  obtain ⟨x, _, hx⟩ := List.mem_flatMap.1 hb
  exact segB_bits x b hx
theorem restC_bits (n : Nat) : Bits (restC n) := by
  apply Bits.app
  · intro b hb; exact Or.inl (List.eq_of_mem_replicate hb)
  · intro b hb
    obtain ⟨k, _, rfl⟩ := List.mem_map.1 hb
    unfold patC
    repeat' split
    all_goals simp
theorem fillC_bits {bits : List Int} (h : Bits bits) (room : Nat) : Bits (fillC bits room) := h.app (restC_bits _)

/-- the number of some bits -/
def numB (l : List Int) : Int := l.foldl (fun n b => n * 2 + b) 0
theorem numB_snoc (l : List Int) (b : Int) : numB (l ++ [b]) = numB l * 2 + b := by simp [numB]
theorem numB_bd : ∀ (n : Nat) (l : List Int), l.length = n → Bits l → 0 ≤ numB l ∧ numB l < 2 ^ n
  | 0, l, hn, _ => by
    obtain rfl := List.eq_nil_of_length_eq_zero hn
    simp [numB]
  | n + 1, l, hn, h => by
    rcases List.eq_nil_or_concat l with rfl | ⟨l', b, rfl⟩
    · simp at hn
    · rw [List.concat_eq_append] at hn h ⊢
      rw [List.length_append] at hn
      have h1 := numB_bd n l' (by simpa using hn) (fun x hx => h x (List.mem_append_left _ hx))
      have h2 := h b (by simp)
      rw [numB_snoc, Int.pow_succ]
      omega
/-- the elements with some bits, w bits each -/
def elemsC (w : Nat) (bits : List Int) : List Int := (List.range (bits.length / w)).map fun i => numB ((bits.drop (i * w)).take w)
theorem elemsC_len (w : Nat) (bits : List Int) : (elemsC w bits).length = bits.length / w := by simp [elemsC]
theorem elemsC_bd {w : Nat} {bits : List Int} (h : Bits bits) : ∀ x ∈ elemsC w bits, 0 ≤ x ∧ x < 2 ^ w := fun x hx => by
  obtain ⟨i, hi, rfl⟩ := List.mem_map.1 hx
  rw [List.mem_range] at hi
  apply numB_bd w
  · rw [List.length_take, List.length_drop]
    have h1 : (i + 1) * w ≤ bits.length / w * w := Nat.mul_le_mul_right _ hi
    have h2 := Nat.div_mul_le_self bits.length w
    rw [Nat.add_mul] at h1
    omega
  · exact fun b hb => h b (List.mem_of_mem_drop (List.mem_of_mem_take hb))
/-- after k bits: the elements that are whole, and the number of the bits behind them -/
theorem elemsC_take_whole {w : Nat} {bits : List Int} {k : Nat} (hw : 1 ≤ w) (hk : k < bits.length) (h : k % w + 1 = w) :
    elemsC w (bits.take (k + 1)) = elemsC w (bits.take k) ++ [numB ((bits.take (k + 1)).drop (k - k % w))] := by
  have hd := Nat.div_add_mod k w
  have hq : (k + 1) / w = k / w + 1 := by
    rw [show k + 1 = w * (k / w) + w by omega]
    rw [show w * (k / w) + w = w * (k / w + 1) by rw [Nat.mul_add, Nat.mul_one], Nat.mul_div_cancel_left _ (by omega)]
  unfold elemsC
  rw [List.length_take, List.length_take, Nat.min_eq_left (by omega), Nat.min_eq_left (by omega), hq, List.range_succ, List.map_append, List.map_singleton]
  have hm : w * (k / w) = k / w * w := Nat.mul_comm _ _
  congr 1
  · apply List.map_congr_left
    intro i hi
    rw [List.mem_range] at hi
    have h1 : (i + 1) * w ≤ k / w * w := Nat.mul_le_mul_right _ hi
    rw [Nat.add_mul] at h1
    congr 1
    rw [List.drop_take, List.drop_take, List.take_take, List.take_take, Nat.min_eq_left (by omega), Nat.min_eq_left (by omega)]
  · congr 2
    rw [show k - k % w = k / w * w by omega]
    rw [List.take_of_length_le]
    rw [List.length_drop, List.length_take]; omega
theorem elemsC_take_part {w : Nat} {bits : List Int} {k : Nat} (hw : 1 ≤ w) (hk : k < bits.length) (h : k % w + 1 < w) :
    elemsC w (bits.take (k + 1)) = elemsC w (bits.take k) := by
  have hd := Nat.div_add_mod k w
  have hq : (k + 1) / w = k / w := by
    rw [Nat.div_eq_iff (by omega)]
    have hm : w * (k / w) = k / w * w := Nat.mul_comm _ _
    omega
  unfold elemsC
  rw [List.length_take, List.length_take, Nat.min_eq_left (by omega), Nat.min_eq_left (by omega), hq]
  have hm : w * (k / w) = k / w * w := Nat.mul_comm _ _
  apply List.map_congr_left
  intro i hi
  rw [List.mem_range] at hi
  have h1 : (i + 1) * w ≤ k / w * w := Nat.mul_le_mul_right _ hi
  rw [Nat.add_mul] at h1
  congr 1
  rw [List.drop_take, List.drop_take, List.take_take, List.take_take, Nat.min_eq_left (by omega), Nat.min_eq_left (by omega)]
theorem part_snoc {w : Nat} {bits : List Int} {k : Nat} {b : Int} (hb : bits[k]? = some b) :
    numB ((bits.take (k + 1)).drop (k - k % w)) = numB ((bits.take k).drop (k - k % w)) * 2 + b := by
  have hk : k < bits.length := (List.getElem?_eq_some_iff.1 hb).1
  have := Nat.mod_le k w
  rw [List.take_add_one, hb, Option.toList_some, List.drop_append_of_le_length (by rw [List.length_take]; omega), numB_snoc]

end Go.Proofs.YtlcglclojlffgaaGreatDoor
namespace Go.Proofs.YtlcglclojlffgaaGreatDoor
open Go.RowKit Go.Conc

/-! A channel in one goroutine, within the walk: what holds of a piece of code in every frame that is no package's beginning. -/
section
variable {P : Program}

def wpN (P : Program) (c : Code) (Q : Exit → Act → World → Prop) (a : Act) (w : World) : Prop :=
  ∀ (b : Frame), b.kind = .normal → ∀ (k : List Item) (cs : List Frame), ∃ e a' w', Q e a' w' ∧ Arrives P (lone (b.at a (.code c :: k)) cs w) b k cs e a' w'
/-- a region's operations from a list on -/
def OpsTo (P : Program) (ops : Array Oper) (Q : Exit → Act → World → Prop) (l : List Nat) (a : Act) (w : World) : Prop :=
  ∀ (b : Frame), b.kind = .normal → ∀ (k : List Item) (cs : List Frame), ∃ e a' w', Q e a' w' ∧ Arrives P (lone (b.at a (.inRegion ops l :: k)) cs w) b k cs e a' w'

theorem wpN_of_wp {c : Code} {Q : Exit → Act → World → Prop} {a : Act} {w : World} (h : c.wp P Q a w) : wpN P c Q a w := fun b _ k cs => h b k cs
theorem wpN_seq {x y : Code} {Q : Exit → Act → World → Prop} {a : Act} {w : World} (h : wpN P x (Exit.then (wpN P y Q) Q) a w) : wpN P (.seq x y) Q a w := by
  intro b hb k cs
  obtain ⟨e, a1, w1, hq, hr⟩ := h b hb (.code y :: k) cs
  have hs : Steps P (lone (b.at a (.code (.seq x y) :: k)) cs w) (lone (b.at a (.code x :: .code y :: k)) cs w) := .one step_seq
  cases e with
  | normal =>
    obtain ⟨e2, a2, w2, hq2, hr2⟩ := hq b hb k cs
    exact ⟨e2, a2, w2, hq2, .of_steps (hs.trans hr) hr2⟩
  | _ => exact ⟨_, a1, w1, hq, .of_steps hs (.pass (x := .code y) rfl (fun _ _ => .inl (by simp)) hr)⟩
theorem wpN_seq_wp {x y : Code} {Q : Exit → Act → World → Prop} {a : Act} {w : World} (h : x.wp P (Exit.then (wpN P y Q) Q) a w) : wpN P (.seq x y) Q a w := wpN_seq (wpN_of_wp h)
theorem wpN_cond {c : Operand} {x y : Code} {t : Bool} {Q : Exit → Act → World → Prop} {a : Act} {w : World} (hc : a.eval c = .bool t) (h : wpN P (if t then x else y) Q a w) : wpN P (.cond c x y) Q a w :=
  fun b hb k cs => let ⟨e, a', w', q, r⟩ := h b hb k cs; ⟨e, a', w', q, .of_steps (.one (step_cond hc)) r⟩
theorem wpN_block {id : Nat} {c : Code} {Q : Exit → Act → World → Prop} {a : Act} {w : World} (h : wpN P c (Exit.inBlock id Q) a w) : wpN P (.block id c) Q a w := by
  intro b hb k cs
  obtain ⟨e, a1, w1, hq, hr⟩ := h b hb (.inBlock id :: k) cs
  have hs : Steps P (lone (b.at a (.code (.block id c) :: k)) cs w) (lone (b.at a (.code c :: .inBlock id :: k)) cs w) := .one step_block
  cases e with
  | normal => exact ⟨.normal, a1, w1, hq, hs.trans (Steps.trans hr (.one step_inBlock))⟩
  | exit id' =>
    by_cases hid : id' = id
    · simp only [Exit.inBlock, hid, if_true] at hq
      exact ⟨.normal, a1, w1, hq, hs.trans (hr k (by simp [exitTo, hid]))⟩
    · simp only [Exit.inBlock, hid, if_false] at hq
      have h2 : (id == id') = false := by rw [beq_eq_false_iff_ne]; exact fun h => hid h.symm
      exact ⟨.exit id', a1, w1, hq, fun k' hk => hs.trans (hr k' (by simp [exitTo, h2, hk]))⟩
  | goto l => exact ⟨_, a1, w1, hq, fun k' hk => hs.trans (hr k' (by simp [gotoIn, hk]))⟩
  | ret => exact ⟨_, a1, w1, hq, .of_steps hs hr⟩
  | panic ch => exact ⟨_, a1, w1, hq, .of_steps hs hr⟩
  | outgrown => exact ⟨_, a1, w1, hq, .of_steps (b := b) (k := k) (cs := cs) (e := .outgrown) hs hr⟩
/-- a loop whose k-th round comes with k = 0, 1 .. n -/
theorem wpN_loop {c : Code} {Q : Exit → Act → World → Prop} {a : Act} {w : World} (I : Nat → Act → World → Prop) (n : Nat) (h0 : I 0 a w)
    (hr : ∀ k a w, k ≤ n → I k a w → wpN P c (Exit.then (fun a' w' => k + 1 ≤ n ∧ I (k + 1) a' w') Q) a w) : wpN P (.loop c) Q a w := by
  intro b hb k cs
  have key : ∀ d i a w, i + d = n → I i a w → ∃ e a' w', Q e a' w' ∧ Arrives P (lone (b.at a (.code c :: .inLoop c :: k)) cs w) b k cs e a' w' := by
    intro d
    induction d with
    | zero =>
      intro i a w hi hI
      obtain ⟨e, a1, w1, hq, har⟩ := hr i a w (by omega) hI b hb (.inLoop c :: k) cs
      cases e with
      | normal => exact absurd hq.1 (by omega)
      | _ => exact ⟨_, a1, w1, hq, .pass (x := .inLoop c) rfl (fun _ _ => .inl (by simp)) har⟩
    | succ d ih =>
      intro i a w hi hI
      obtain ⟨e, a1, w1, hq, har⟩ := hr i a w (by omega) hI b hb (.inLoop c :: k) cs
      cases e with
      | normal =>
        obtain ⟨e2, a2, w2, hq2, har2⟩ := ih (i + 1) a1 w1 (by omega) hq.2
        exact ⟨e2, a2, w2, hq2, .of_steps (Steps.trans har (.one step_inLoop)) har2⟩
      | _ => exact ⟨_, a1, w1, hq, .pass (x := .inLoop c) rfl (fun _ _ => .inl (by simp)) har⟩
  obtain ⟨e, a', w', hq, har⟩ := key n 0 a w (by omega) h0
  exact ⟨e, a', w', hq, .of_steps (.one step_loop) har⟩
theorem wpN_region {id : Nat} {ops : Array Oper} {Q : Exit → Act → World → Prop} {a : Act} {w : World} (h : OpsTo P ops Q (List.range ops.size) a w) : wpN P (.region id ops false) Q a w :=
  fun b hb k cs => let ⟨e, a', w', q, r⟩ := h b hb k cs; ⟨e, a', w', q, .of_steps (.one step_region) r⟩
theorem wpN_region_l {id : Nat} {ops : Array Oper} {Q : Exit → Act → World → Prop} {a : Act} {w : World} (l : List Nat) (hl : List.range ops.size = l) (h : OpsTo P ops Q l a w) : wpN P (.region id ops false) Q a w := wpN_region (by rw [hl]; exact h)
theorem opsTo_nil {ops : Array Oper} {Q : Exit → Act → World → Prop} {a : Act} {w : World} (h : Q .normal a w) : OpsTo P ops Q [] a w :=
  fun _ _ _ _ => ⟨.normal, a, w, h, .one step_region_end⟩
/-- the operations behind stand for themselves -/
theorem opsTo_ops {ops : Array Oper} {Q : Exit → Act → World → Prop} {l : List Nat} {a : Act} {w : World} (h : wpOps P ops Q l a w) : OpsTo P ops Q l a w := fun b _ k cs => wp_ops l a w h b k cs
theorem opsTo_val {ops : Array Oper} {Q : Exit → Act → World → Prop} {i : Nat} {rest : List Nat} {o : Oper} {a : Act} {v : Value} {w w' : World} (ho : ops[i]? = some o) (hw : Region.wanted o (yielded ops a.tmps) = true) (hr : (execOp a.eval o).run P w = .ok (.value v) w')
    (h : OpsTo P ops Q rest (a.put o.dst v) w') : OpsTo P ops Q (i :: rest) a w := by
  intro b hb k cs
  obtain ⟨e, a', w2, hq, har⟩ := h b hb k cs
  refine ⟨e, a', w2, hq, .of_steps (.one (step_lone_go ?_)) har⟩
  have hfin : (b.at a (.inRegion ops (i :: rest) :: k)).finish v = b.at (a.put o.dst v) (.inRegion ops rest :: k) := by
    rw [Frame.finish_at, ho]; rfl
  rw [stepG_op ho hw, ← hfin]
  simp [stepG.apply, hr]
theorem opsTo_valD (d : Option Tmp) {ops : Array Oper} {Q : Exit → Act → World → Prop} {i : Nat} {rest : List Nat} {o : Oper} {a : Act} {v : Value} {w w' : World} (ho : ops[i]? = some o) (hw : Region.wanted o (yielded ops a.tmps) = true) (hd : o.dst = d) (hr : (execOp a.eval o).run P w = .ok (.value v) w')
    (h : OpsTo P ops Q rest (a.put d v) w') : OpsTo P ops Q (i :: rest) a w := by
  subst hd
  exact opsTo_val ho hw hr h
theorem opsTo_send {ops : Array Oper} {Q : Exit → Act → World → Prop} {i : Nat} {rest : List Nat} {o : Oper} {a : Act} {v z : Value} {w : World} {c cap s r : Nat} {buf : Array Value} {tm : Bool} (ho : ops[i]? = some o) (hw : Region.wanted o (yielded ops a.tmps) = true)
    (hr : (execOp a.eval o).run P w = .ok (.comm #[scase c v z] true .send) w) (hc : w.heap[c]? = some (.chan cap buf false s r tm)) (hroom : buf.size < cap)
    (h : OpsTo P ops Q rest (a.put o.dst undef) (w.setChan c cap (buf.push v) false (s + 1) r tm)) : OpsTo P ops Q (i :: rest) a w := by
  intro b hb k cs
  obtain ⟨e, a', w2, hq, har⟩ := h b hb k cs
  refine ⟨e, a', w2, hq, .of_steps (.one ?_) har⟩
  have hfin : (b.at a (.inRegion ops (i :: rest) :: k)).finish undef = b.at (a.put o.dst undef) (.inRegion ops rest :: k) := by
    rw [Frame.finish_at, ho]; rfl
  rw [← hfin]
  exact step_lone_send_room (stepG_comm ho hw (by rw [hb]; decide) hr) hc hroom
theorem opsTo_recv {ops : Array Oper} {Q : Exit → Act → World → Prop} {i : Nat} {rest : List Nat} {o : Oper} {a : Act} {z : Value} {w : World} {c cap s r : Nat} {buf : Array Value} {closed tm ok : Bool} (ho : ops[i]? = some o) (hw : Region.wanted o (yielded ops a.tmps) = true)
    (hr : (execOp a.eval o).run P w = .ok (.comm #[rcase c z] true (.recv ok)) w) (hc : w.heap[c]? = some (.chan cap buf closed s r tm)) (hsome : 0 < buf.size)
    (h : OpsTo P ops Q rest (a.put o.dst (got ok (buf.getD 0 undef) true)) (w.setChan c cap (buf.extract 1 buf.size) closed s (r + 1) tm)) : OpsTo P ops Q (i :: rest) a w := by
  intro b hb k cs
  obtain ⟨e, a', w2, hq, har⟩ := h b hb k cs
  refine ⟨e, a', w2, hq, .of_steps (.one ?_) har⟩
  have hfin : ∀ v, (b.at a (.inRegion ops (i :: rest) :: k)).finish v = b.at (a.put o.dst v) (.inRegion ops rest :: k) := fun v => by
    rw [Frame.finish_at, ho]; rfl
  rw [← hfin]
  exact step_lone_recv_buf ok (stepG_comm ho hw (by rw [hb]; decide) hr) hc hsome
theorem opsTo_shut {ops : Array Oper} {Q : Exit → Act → World → Prop} {i : Nat} {rest : List Nat} {o : Oper} {a : Act} {z : Value} {w : World} {c cap s r : Nat} {tm ok : Bool} (ho : ops[i]? = some o) (hw : Region.wanted o (yielded ops a.tmps) = true)
    (hr : (execOp a.eval o).run P w = .ok (.comm #[rcase c z] true (.recv ok)) w) (hc : w.heap[c]? = some (.chan cap #[] true s r tm))
    (h : OpsTo P ops Q rest (a.put o.dst (got ok z false)) w) : OpsTo P ops Q (i :: rest) a w := by
  intro b hb k cs
  obtain ⟨e, a', w2, hq, har⟩ := h b hb k cs
  refine ⟨e, a', w2, hq, .of_steps (.one ?_) har⟩
  have hfin : ∀ v, (b.at a (.inRegion ops (i :: rest) :: k)).finish v = b.at (a.put o.dst v) (.inRegion ops rest :: k) := fun v => by
    rw [Frame.finish_at, ho]; rfl
  rw [← hfin]
  exact step_lone_recv_shut ok (stepG_comm ho hw (by rw [hb]; decide) hr) hc
theorem calls_of_wpN {f : FuncId} {fn : Func} {c : Code} {args : Array Value} {w : World} {R : Ending → World → Prop} (hf : P.funcs[f]? = some fn) (hb : fn.body = some c) (hno : ∀ w', ¬ R .outgrown w')
    (h : wpN P c (bodyPost P fn R) { tmps := args ++ Array.replicate (fn.ntmps - args.size) undef, defers := [] } w) : Calls P f args w R := by
  intro cs
  have henter : Frame.enter P f args .normal = ({ (default : Frame) with fn := f, kind := .normal } : Frame).at { tmps := args ++ Array.replicate (fn.ntmps - args.size) undef, defers := [] } [.code c] := by
    simp [Frame.enter, Frame.at, hf, hb]
  obtain ⟨e, a', w', hq, har⟩ := h { (default : Frame) with fn := f, kind := .normal } rfl [] cs
  rw [← henter] at har
  cases e with
  | normal =>
    obtain ⟨hd, v, hr, hR⟩ := hq
    exact ⟨.returned v, w', _, hR, Steps.trans har (.one step_end), rfl, rfl, hd, rfl, fn, hf, hr⟩
  | ret =>
    obtain ⟨hd, v, hr, hR⟩ := hq
    obtain ⟨todo, hs⟩ := har
    exact ⟨.returned v, w', _, hR, hs, rfl, rfl, hd, rfl, fn, hf, hr⟩
  | panic chain =>
    obtain ⟨hd, hR⟩ := hq
    obtain ⟨todo, hs⟩ := har
    exact ⟨.panicked chain, w', _, hR, hs, rfl, rfl, hd, fn, hf⟩
  | exit id => exact hq.elim
  | goto l => exact hq.elim
  | outgrown => exact absurd hq (hno _)
end

end Go.Proofs.YtlcglclojlffgaaGreatDoor
namespace Go.Proofs.YtlcglclojlffgaaGreatDoor
open Go.RowKit Go.Conc

theorem chan_info : ∃ i, Tryz.prog.info? 2 = some i ∧ i.bytes = 8 := by
  have h : (Tryz.prog.info? 2).map (·.bytes) = some 8 := by kernel_rfl
  obtain ⟨i, hi, hb⟩ := Option.map_eq_some_iff.1 h
  exact ⟨i, hi, hb⟩
/-- a channel with room for n numbers holds l -/
def ChAt (w : World) (b n : Nat) (l : List Int) (cl : Bool) : Prop := ∃ s r, w.heap[b]? = some (.chan n (l.map (Value.int .i64)).toArray cl s r false)
theorem ChAt.lt {w : World} {b n : Nat} {l : List Int} {cl : Bool} (h : ChAt w b n l cl) : b < w.heap.size := by
  obtain ⟨s, r, h⟩ := h
  exact (Array.getElem?_eq_some_iff.1 h).1
theorem ChAt.below {w w' : World} {b n : Nat} {l : List Int} {cl : Bool} (h : ChAt w b n l cl) (hb : Below w.heap.size w w') : ChAt w' b n l cl := by
  have hl := h.lt
  obtain ⟨s, r, h⟩ := h
  exact ⟨s, r, (hb.block b hl).trans h⟩
/-- a number is sent -/
theorem opsTo_sendI {ops : Array Oper} {Q : Exit → Act → World → Prop} {i : Nat} {rest : List Nat} {o : Oper} {a : Act} {z : Int} {zz : Value} {w : World} {b n : Nat} {l : List Int} (ho : ops[i]? = some o) (hw : Region.wanted o (yielded ops a.tmps) = true)
    (hr : (execOp a.eval o).run Tryz.prog w = .ok (.comm #[scase b (.int .i64 z) zz] true .send) w) (hc : ChAt w b n l false) (hroom : l.length < n)
    (h : ∀ w', ChAt w' b n (l ++ [z]) false → (∀ B a0, Below B a0 w → B ≤ b → Below B a0 w') → (∀ k, k ≠ b → w'.heap[k]? = w.heap[k]?) → OpsTo Tryz.prog ops Q rest (a.put o.dst undef) w') : OpsTo Tryz.prog ops Q (i :: rest) a w := by
  have hl := hc.lt
  obtain ⟨s, r, hg⟩ := hc
  refine opsTo_send ho hw hr hg (by simpa using hroom) (h _ ⟨s + 1, r, ?_⟩ (fun B a0 hb hB => below_setChan hb hB _ _ _ _ _ _) (fun k hk => ?_))
  · rw [heap_setChan _ _ _ _ _ _ _ _ hl]
    simp
  · simp only [World.setChan]
    rw [Array.getElem?_setIfInBounds_ne (by omega)]
theorem patC_at (k : Nat) : (#[Value.int .i64 1, .int .i64 1, .int .i64 0, .int .i64 1, .int .i64 0, .int .i64 0] : Array Value)[k % 6]? = some (.int .i64 (patC k)) := by
  have h : k % 6 = 0 ∨ k % 6 = 1 ∨ k % 6 = 2 ∨ k % 6 = 3 ∨ k % 6 = 4 ∨ k % 6 = 5 := by omega
  unfold patC
  rcases h with h | h | h | h | h | h <;> rw [h] <;> simp
/-- the bits are handed back in a closed channel -/
def RetPack (room : Nat) (l : List Int) (w : World) (e : Ending) (w' : World) : Prop := e = .returned (.chan (some w.heap.size)) ∧ ChAt w' w.heap.size room l true ∧ Below w.heap.size w w'
end Go.Proofs.YtlcglclojlffgaaGreatDoor
namespace Go.Proofs.YtlcglclojlffgaaGreatDoor
open Go.RowKit

theorem bitsC_at (v w i : Nat) (h : i < w) : (bitsC v w)[i]? = some ((v >>> (w - 1 - i) % 2 : Nat) : Int) := by
  unfold bitsC
  rw [List.getElem?_map, List.getElem?_range h]
  rfl
/-- a row of the call's own goes on: nothing else has turned -/
structure MoreI (base : Nat) (w : World) (v : Value) (w' : World) (v' : Value) (l' : List Int) : Prop where
  own : OwnI w' base v' l'
  below : Below base w w'
  ob : ∀ b, v'.ownBlock = some b → v.ownBlock = some b ∨ w.heap.size ≤ b
  kept : ∀ b, b < w.heap.size → v.ownBlock ≠ some b → w'.heap[b]? = w.heap[b]?
theorem MoreI.refl {base : Nat} {w : World} {v : Value} {l : List Int} (h : OwnI w base v l) : MoreI base w v w v l := ⟨h, Below.refl _ _, fun _ e => Or.inl e, fun _ _ _ => rfl⟩
theorem MoreI.trans {base : Nat} {w w1 w2 : World} {v v1 v2 : Value} {l1 l2 : List Int} (h : MoreI base w v w1 v1 l1) (k : MoreI base w1 v1 w2 v2 l2) : MoreI base w v w2 v2 l2 := by
  have hs := h.below.size
  refine ⟨k.own, h.below.trans k.below, fun b e => ?_, fun b hb hne => ?_⟩
  · rcases k.ob b e with h1 | h1
    · exact h.ob b h1
    · exact Or.inr (by omega)
  · have h1 : v1.ownBlock ≠ some b := fun e => by
      rcases h.ob b e with h2 | h2
      · exact hne h2
      · omega
    exact (k.kept b (by omega) h1).trans (h.kept b hb hne)
theorem MoreI.grown {base : Nat} {w w1 w2 : World} {v v1 : Value} {l1 : List Int} (h : MoreI base w v w1 v1 l1) (hb : Below w1.heap.size w1 w2) (hB : base ≤ w.heap.size) : MoreI base w v w2 v1 l1 :=
  ⟨h.own.grown hb, bt0 h.below hb hB, h.ob, fun b hlt hne => (hb.block b (Nat.lt_of_lt_of_le hlt h.below.size)).trans (h.kept b hlt hne)⟩
/-- from a world before: what has been made since is nobody's -/
theorem MoreI.since {base : Nat} {w0 w w1 : World} {v v1 : Value} {l1 : List Int} (h : MoreI base w v w1 v1 l1) (hb : Below w0.heap.size w0 w) (hB : base ≤ w0.heap.size) : MoreI base w0 v w1 v1 l1 :=
  ⟨h.own, bt0 (Below.refl _ _) hb hB |>.trans h.below, fun b e => (h.ob b e).imp id (fun h1 => Nat.le_trans hb.size h1), fun b hlt hne => (h.kept b (Nat.lt_of_lt_of_le hlt hb.size) hne).trans (hb.block b hlt)⟩
/-- append of one number -/
theorem wpList_append_i1a {ops : Array Oper} {rest : List Oper} {o : Oper} {a : Act} {Q : Exit → Act → World → Prop} {W : World} (hgd : o.guard = none) (s x : Operand) (T : TypeId) (hT : Tryz.prog.underlying T = some (.slice 2))
    (ho : o.op = .call { callee := .builtin .append, args := #[s, x], argTypes := #[T, T] })
    (base : Nat) (v : Value) (l : List Int) (z : Int) (hs : a.eval s = v) (hown : OwnI W base v l) (g : Nat) (hx : a.eval x = .slice (some ⟨g, 0, none⟩) 1 1)
    (hg : W.heap[g]? = some (.cells #[.int .i64 z] 2 (0, 0))) (hl : l.length ≤ 1000000000) (hb : base ≤ W.heap.size)
    (h : ∀ a' c' l' w', l' = l ++ [z] → MoreI base W v w' (.slice a' l'.length c') l' → wpList Tryz.prog ops Q rest (a.put o.dst (.slice a' l'.length c')) w') : wpList Tryz.prog ops Q (o :: rest) a W := by
  obtain ⟨i0, hi, y0, y1, y2⟩ := info_parts infoI
  refine wpList_append_own_at _ hgd s x T ho base 2 i0 _ 1 8 hT hi y0 y1 y2 rfl (by decide) v l.length (l.map (Value.int .i64)) hs hown ⟨g, 0, none⟩ 1 1 [.int .i64 z] hx rfl ?_ ?_ (by unfold maxLen; omega) (by omega) hb
    (fun v' w' h1 h2 _ h4 => ?_)
  · intro j u hu
    rw [Addr.add_lit, Nat.zero_add, (heap_cellR hg).1, ← hu]
    simp
  · intro u hu
    simp only [List.mem_singleton] at hu
    subst hu; rfl
  · have ho : OwnI w' base v' (l ++ [z]) := by
      unfold OwnI
      rw [List.length_append, List.map_append]
      exact h1
    obtain ⟨a', c', e, _⟩ := ho.read
    rw [e] at ho h4 ⊢
    refine h a' c' _ w' rfl ⟨ho, below_of_grownBy h2 hb (fun k hk => hown.lo k hk), fun b e => ?_, fun b hlt hne => h2.block b hlt (fun e => hne e.symm)⟩
    rcases h4 with h5 | h5
    · exact Or.inl (h5.symm.trans e)
    · rw [h5] at e; exact Or.inr (Nat.le_of_eq (Option.some.inj e))
/-- numbers of a row that was the call's own before are handed back, more of them -/
def RetMore (base : Nat) (w : World) (v : Value) (l : List Int) (e : Ending) (w' : World) : Prop := ∃ a c l', l' = l ∧ e = .returned (.slice a l'.length c) ∧ MoreI base w v w' (.slice a l'.length c) l'
end Go.Proofs.YtlcglclojlffgaaGreatDoor
namespace Go.Proofs.YtlcglclojlffgaaGreatDoor
open Go.RowKit

/-- the characters of a mode, as a string; the bits of its groups -/
def charS (m : Nat) : ByteArray := ⟨(chars m).toArray⟩
def widsM (m : Nat) : List Int := (List.range (grpM m)).map fun i => ((widM m (i + 1) : Nat) : Int)
theorem charS_size (m : Nat) : (charS m).size = (chars m).length := by simp [charS, ByteArray.size]
theorem chars_low (m : Nat) : ∀ c ∈ chars m, c.toNat < 128 := by unfold chars; split <;> decide
theorem chars_len (m : Nat) (h1 : 1 ≤ m) (h3 : m ≤ 3) : (chars m).length = baseM m := by
  obtain rfl | rfl | rfl : m = 1 ∨ m = 2 ∨ m = 3 := by omega
  all_goals rfl
theorem chars_le (m : Nat) : (chars m).length ≤ 45 := by unfold chars; split <;> decide
theorem idxC_at : ∀ (l : List UInt8) (x j : Int) (k : Nat), (∀ i c, i < k → l[i]? = some c → (c.toNat : Int) ≠ x) → (∃ c, l[k]? = some c ∧ (c.toNat : Int) = x) → idxC l x j = j + k
  | [], _, _, k, _, ⟨c, hc, _⟩ => by simp at hc
  | c :: l, x, j, 0, _, ⟨d, hd, he⟩ => by
    simp at hd
    subst hd
    rw [idxC, if_pos he]; simp
  | c :: l, x, j, k + 1, h, ⟨d, hd, he⟩ => by
    rw [idxC, if_neg (h 0 c (by omega) rfl), idxC_at l x (j + 1) k (fun i e hi hl => h (i + 1) e (by omega) (by simpa using hl)) ⟨d, by simpa using hd, he⟩]
    push_cast; omega
theorem idxC_none : ∀ (l : List UInt8) (x j : Int), (∀ c ∈ l, (c.toNat : Int) ≠ x) → idxC l x j = -1
  | [], _, _, _ => rfl
  | c :: l, x, j, h => by
    rw [idxC, if_neg (h c (by simp)), idxC_none l x (j + 1) (fun d hd => h d (by simp [hd]))]
/-- the next character -/
theorem next_char {P : Program} (w : World) (m k : Nat) (hk : k < (chars m).length) : ∃ (c : UInt8) (z : Nat), (chars m)[k]? = some c ∧ c.toNat = z ∧ z < 128 ∧ ∀ ty, (Instr.next (.pointer (some ⟨w.heap.size, 0, none⟩)) true ty).run P (w.iter (charS m) k) = .ok (.tuple #[.bool true, .int .i64 k, .int .i32 z]) (w.iter (charS m) (k + 1)) := by
  have hs : k < (charS m).size := by rw [charS_size]; exact hk
  have e : (charS m)[k]'hs = (chars m)[k] := rfl
  refine ⟨(chars m)[k], (chars m)[k].toNat, List.getElem?_eq_getElem hk, rfl, chars_low m _ (List.getElem_mem hk), fun ty => ?_⟩
  have h := run_next_ascii (P := P) w (charS m) k ty hs (by rw [e]; exact chars_low m _ (List.getElem_mem hk))
  rw [e] at h
  exact h
theorem iter_below (w : World) (s : ByteArray) (k : Nat) : Below w.heap.size w (w.iter s k) := ba1 w _

set_option maxRecDepth 100000 in
set_option maxHeartbeats 1000000 in
theorem value_listed (m : Nat) (h1 : 1 ≤ m) (h3 : m ≤ 3) (a : Option Addr) (n c : Nat) (x : Int) (w : World) :
    Calls Tryz.prog 271 #[.agg #[.string (charS m), .slice a n c], .int .i64 x] w fun e w' => e = .returned (.int .i64 (valC m x)) ∧ Below w.heap.size w w' := by
  have HV := Lib.hid (show valC m x = idxC (chars m) x 0 by unfold valC; rw [if_neg (by omega)])
  have hl := chars_le m
  go_enter Tryz.func271, Tryz.ntmps271
  go_wp2_with fail
  obtain ⟨w1, hw1⟩ : ∃ w1, w1 = w.alloc (.cells #[.string (charS m), .slice a n c] 308 (0, 0)) := ⟨_, rfl⟩
  have HB := Lib.hid (show Below w.heap.size w w1 by rw [hw1]; exact ba1 _ _)
  have hsz : w.heap.size + 1 = w1.heap.size := by rw [hw1]; simp
  try rw [← hw1]
  try rw [hsz]
  clear hw1
  go_loopw [5, 6] (fun _ _ wr => ∃ k : Nat, k ≤ (chars m).length ∧ wr = w1.iter (charS m) k ∧ ∀ i c, i < k → (chars m)[i]? = some c → (c.toNat : Int) ≠ x) (fun _ _ wr => (chars m).length - World.iterPos wr w1.heap.size)
  case atStart => exact ⟨0, Nat.zero_le _, rfl, fun i c h => by omega⟩
  case round =>
    obtain ⟨k, hk, rfl, hall⟩ := hrel
    have HA := Lib.hid hall
    clear hall
    by_cases hlt : k < (chars m).length
    · obtain ⟨ch, z, hc, hz, hz8, hnx⟩ := next_char (P := Tryz.prog) w1 m k hlt
      have HC := Lib.hid hc
      have HZ := Lib.hid hz
      clear hc hz
      by_cases hx : (z : Int) = x
      · have hx' : ((z : Int) == x) = true := by rw [beq_iff_eq]; exact hx
        have HX := Lib.hid hx
        clear hx
        go_wp2_with fail
        go_ret
        refine ⟨ret_int ?_, HB.out.trans ((iter_below w1 _ _).mono HB.out.size)⟩
        rw [HV.out, idxC_at _ x 0 k HA.out ⟨ch, HC.out, by rw [HZ.out, HX.out]⟩]; omega
      · have hx' : ((z : Int) == x) = false := by rw [beq_eq_false_iff_ne]; exact hx
        have HX := Lib.hid hx
        clear hx
        go_wp2_with fail
        refine ⟨⟨k + 1, by omega, rfl, fun i c hi he => ?_⟩, ?_⟩
        · by_cases hik : i = k
          · subst hik
            rw [HC.out] at he
            cases he
            rw [HZ.out]; exact HX.out
          · exact HA.out i c (by omega) he
        · simp [World.iterPos, World.iter_heap]; omega
    · have hnx := fun ty => run_next_end (P := Tryz.prog) w1 (charS m) k ty (by rw [charS_size]; omega)
      go_wp2_with fail
      go_ret
      refine ⟨ret_int ?_, HB.out.trans ((iter_below w1 _ _).mono HB.out.size)⟩
      rw [HV.out, idxC_none]
      intro c hc
      obtain ⟨i, hi, rfl⟩ := List.mem_iff_getElem.1 hc
      exact HA.out i _ (by omega) (List.getElem?_eq_getElem hi)

end Go.Proofs.YtlcglclojlffgaaGreatDoor
namespace Go.Proofs.YtlcglclojlffgaaGreatDoor
open Go.RowKit

theorem below_cell {w w' : World} (h : Below w.heap.size w w') {b o : Nat} {v : Value} (hc : w.cell? ⟨b, o, none⟩ = some v) : w'.cell? ⟨b, o, none⟩ = some v := (h.cell (p := ⟨b, o, none⟩) (lt_of_cell hc)).trans hc
theorem grpM_at (m : Nat) (_h1 : 1 ≤ m) (_h3 : m ≤ 3) (g : Nat) (g1 : 1 ≤ g) (g3 : g ≤ grpM m) : (widsM m)[g - 1]? = some ((widM m g : Nat) : Int) := by
  obtain ⟨j, rfl⟩ : ∃ j, g = j + 1 := ⟨g - 1, by omega⟩
  rw [Nat.add_sub_cancel]
  unfold widsM
  rw [List.getElem?_map, List.getElem?_range (by omega)]
  rfl
theorem widsM_len (m : Nat) : (widsM m).length = grpM m := by simp [widsM]
set_option maxRecDepth 100000 in
set_option maxHeartbeats 1000000 in
theorem width_listed (m : Nat) (h1 : 1 ≤ m) (h3 : m ≤ 3) (a : Option Addr) (c : Nat) (g : Nat) (g1 : 1 ≤ g) (g3 : g ≤ grpM m) (w : World) (hx : IntsAt w a (widsM m)) :
    Calls Tryz.prog 272 #[.agg #[.string (charS m), .slice a (grpM m) c], .int .i64 (g : Int)] w fun e w' => e = .returned (.int .i64 (widM m g : Nat)) ∧ Below w.heap.size w w' := by
  obtain ⟨b, o, z, rfl, hz, hb, hc⟩ := hx.at (k := g - 1) (by rw [widsM_len]; omega)
  rw [grpM_at m h1 h3 g g1 g3] at hz
  obtain rfl := Option.some.inj hz
  have hi : (g : Int) - 1 = ((g - 1 : Nat) : Int) := by omega
  have hi2 : ((g - 1 : Nat) : Int) < (grpM m : Int) := by omega
  have hgb := (grpM_bd m).2
  clear hx hz
  go_enter Tryz.func272, Tryz.ntmps272
  go_wp2_with fail
  go_ret
  exact ⟨rfl, ba1 _ _⟩
set_option maxRecDepth 100000 in
theorem group_listed (s : ByteArray) (a : Option Addr) (n c : Nat) (w : World) :
    Calls Tryz.prog 270 #[.agg #[.string s, .slice a n c]] w fun e w' => e = .returned (.int .i64 (n : Int)) ∧ Below w.heap.size w w' := by
  go_enter Tryz.func270, Tryz.ntmps270
  go_wp2_with fail
  go_ret
  exact ⟨rfl, ba1 _ _⟩
set_option maxRecDepth 100000 in
theorem value_plain (x : Int) (w : World) :
    Calls Tryz.prog 276 #[.agg #[], .int .i64 x] w fun e w' => e = .returned (.int .i64 x) ∧ Below w.heap.size w w' := by
  go_enter Tryz.func276, Tryz.ntmps276
  go_wp2_with fail
  go_ret
  exact ⟨rfl, ba1 _ _⟩
set_option maxRecDepth 100000 in
theorem width_plain (x : Int) (w : World) :
    Calls Tryz.prog 277 #[.agg #[], .int .i64 x] w fun e w' => e = .returned (.int .i64 8) ∧ Below w.heap.size w w' := by
  go_enter Tryz.func277, Tryz.ntmps277
  go_wp2_with fail
  go_ret
  exact ⟨rfl, ba1 _ _⟩
set_option maxRecDepth 100000 in
theorem group_plain (w : World) :
    Calls Tryz.prog 275 #[.agg #[]] w fun e w' => e = .returned (.int .i64 1) ∧ Below w.heap.size w w' := by
  go_enter Tryz.func275, Tryz.ntmps275
  go_wp2_with fail
  go_ret
  exact ⟨rfl, ba1 _ _⟩

/-- a method of a value in an interface -/
def Meth (T : TypeId) (r : Value) (name : String) (f : FuncId) : Prop := (∀ n W, (method (n + 1) T r name).run Tryz.prog W = .ok (f, r) W) ∧ (∀ args W, (callFunc f args).run Tryz.prog W = .ok (.enter f args) W) ∧ ∀ n W, (nilAhead (n + 1) T r name).run Tryz.prog W = .ok (some false) W
/-- a mode in an interface: its methods answer as the numbers say, while its block stands -/
structure ModeM (w : World) (m : Nat) (T : TypeId) (r : Value) (fv fg fb fw : FuncId) (bk : Option Nat) : Prop where
  mv : Meth T r "loop.example/g00879/impl.value" fv
  mg : Meth T r "loop.example/g00879/impl.group" fg
  mw : Meth T r "loop.example/g00879/impl.width" fw
  lt : ∀ b, bk = some b → b < w.heap.size
  cv : ∀ x w', Calls Tryz.prog fv #[r, .int .i64 x] w' fun e w'' => e = .returned (.int .i64 (valC m x)) ∧ Below w'.heap.size w' w''
  cg : ∀ w', Calls Tryz.prog fg #[r] w' fun e w'' => e = .returned (.int .i64 (grpM m : Nat)) ∧ Below w'.heap.size w' w''
  cw : ∀ (g : Nat) w', 1 ≤ g → g ≤ grpM m → (∀ b, bk = some b → w'.heap[b]? = w.heap[b]?) → Calls Tryz.prog fw #[r, .int .i64 (g : Int)] w' fun e w'' => e = .returned (.int .i64 (widM m g : Nat)) ∧ Below w'.heap.size w' w''
theorem ModeM.kept {w w1 : World} {m : Nat} {T : TypeId} {r : Value} {fv fg fb fw : FuncId} {bk : Option Nat} (h : ModeM w m T r fv fg fb fw bk) (hs : w.heap.size ≤ w1.heap.size) (hk : ∀ b, bk = some b → w1.heap[b]? = w.heap[b]?) : ModeM w1 m T r fv fg fb fw bk :=
  ⟨h.mv, h.mg, h.mw, fun b e => Nat.lt_of_lt_of_le (h.lt b e) hs, h.cv, h.cg, fun g w' g1 g2 k => h.cw g w' g1 g2 (fun b e => (k b e).trans (hk b e))⟩
theorem ModeM.below {w w1 : World} {m : Nat} {T : TypeId} {r : Value} {fv fg fb fw : FuncId} {bk : Option Nat} (h : ModeM w m T r fv fg fb fw bk) (hb : Below w.heap.size w w1) : ModeM w1 m T r fv fg fb fw bk :=
  h.kept hb.size (fun b e => hb.block b (h.lt b e))
theorem ints_same {w w' : World} {b o : Nat} {zs : List Int} (h : IntsAt w (some ⟨b, o, none⟩) zs) (hk : w'.heap[b]? = w.heap[b]?) : IntsAt w' (some ⟨b, o, none⟩) zs := by
  intro i hi
  obtain ⟨b1, o1, e, hc⟩ := h i hi
  cases e
  exact ⟨b, o, rfl, by rw [← hc]; simp [World.cell?, hk]⟩
theorem mode_listed (m : Nat) (h1 : 1 ≤ m) (h3 : m ≤ 3) (b o c : Nat) (w : World) (hb : b < w.heap.size) (hx : IntsAt w (some ⟨b, o, none⟩) (widsM m)) :
    ModeM w m 308 (.agg #[.string (charS m), .slice (some ⟨b, o, none⟩) (grpM m) c]) 271 270 268 272 (some b) where
  lt := fun b' e => by cases e; exact hb
  mv := ⟨fun n W => by kernel_rfl, fun args W => by kernel_rfl, fun n W => by kernel_rfl⟩
  mg := ⟨fun n W => by kernel_rfl, fun args W => by kernel_rfl, fun n W => by kernel_rfl⟩
  mw := ⟨fun n W => by kernel_rfl, fun args W => by kernel_rfl, fun n W => by kernel_rfl⟩
  cv := fun x w' => value_listed m h1 h3 _ _ c x w'
  cg := fun w' => group_listed _ _ _ c w'
  cw := fun g w' g1 g3 hk => width_listed m h1 h3 _ c g g1 g3 w' (ints_same hx (hk b rfl))
theorem mode_plain (w : World) :
    ModeM w 4 309 (.agg #[]) 276 275 273 277 none where
  lt := fun b' e => by cases e
  mv := ⟨fun n W => by kernel_rfl, fun args W => by kernel_rfl, fun n W => by kernel_rfl⟩
  mg := ⟨fun n W => by kernel_rfl, fun args W => by kernel_rfl, fun n W => by kernel_rfl⟩
  mw := ⟨fun n W => by kernel_rfl, fun args W => by kernel_rfl, fun n W => by kernel_rfl⟩
  cv := fun x w' => value_plain x w'
  cg := fun w' => group_plain w'
  cw := fun g w' _ _ _ => width_plain (g : Int) w'
/-- a mode is handed back -/
def RetMode (m : Nat) (w : World) (e : Ending) (w' : World) : Prop := Below w.heap.size w w' ∧ ∃ T r fv fg fb fw bk, e = .returned (.tuple #[.iface T r, .bool true]) ∧ ModeM w' m T r fv fg fb fw bk ∧ ∀ b, bk = some b → w.heap.size ≤ b
theorem ints_lit2 {w : World} {g : Nat} {cs : Array Value} {t : TypeId} {zs : List Int} (h : w.heap[g]? = some (.cells cs t (0, 0))) (hc : cs = (zs.map (Value.int .i64)).toArray) : IntsAt w (some ⟨g, 0, none⟩) zs := by
  intro i hi
  refine ⟨g, 0, rfl, ?_⟩
  rw [Nat.zero_add, (heap_cellR h).1, hc]
  simp [hi]
set_option maxRecDepth 100000 in
set_option maxHeartbeats 1000000 in
theorem modeOf_any (m : Nat) (h1 : 1 ≤ m) (h4 : m ≤ 4) (w : World) : Calls Tryz.prog 225 #[.int .i64 (m : Int)] w (RetMode m w) := by
  obtain rfl | rfl | rfl | rfl : m = 1 ∨ m = 2 ∨ m = 3 ∨ m = 4 := by omega
  · go_enter Tryz.func225, Tryz.ntmps225
    go_wp2_with fail
    go_ret2
    exact ⟨ba1 _ _, _, _, _, _, _, _, _, rfl, mode_listed 1 (by omega) (by omega) _ _ _ _ (by simp) (ints_lit2 (push_at _ _) rfl), fun b e => by cases e; exact Nat.le_refl _⟩
  · go_enter Tryz.func225, Tryz.ntmps225
    go_wp2_with fail
    go_ret2
    exact ⟨ba1 _ _, _, _, _, _, _, _, _, rfl, mode_listed 2 (by omega) (by omega) _ _ _ _ (by simp) (ints_lit2 (push_at _ _) rfl), fun b e => by cases e; exact Nat.le_refl _⟩
  · go_enter Tryz.func225, Tryz.ntmps225
    go_wp2_with fail
    go_ret2
    exact ⟨ba1 _ _, _, _, _, _, _, _, _, rfl, mode_listed 3 (by omega) (by omega) _ _ _ _ (by simp) (ints_lit2 (push_at _ _) rfl), fun b e => by cases e; exact Nat.le_refl _⟩
  · go_enter Tryz.func225, Tryz.ntmps225
    go_wp2_with fail
    go_ret2
    exact ⟨Below.refl _ _, _, _, _, _, _, _, _, rfl, mode_plain _, fun b e => by cases e⟩

end Go.Proofs.YtlcglclojlffgaaGreatDoor
namespace Go.Proofs.YtlcglclojlffgaaGreatDoor
open Go.RowKit

theorem Meth.at {T : TypeId} {r : Value} {name : String} {f : FuncId} (h : Meth T r name f) (n : Nat) (W : World) (hn : 0 < n) : Sem.run Tryz.prog (method n T r name) W = .ok (f, r) W := by
  obtain ⟨k, rfl⟩ : ∃ k, n = k + 1 := ⟨n - 1, by omega⟩
  exact h.1 k W
theorem invoke_run0 {a : Act} {o : Oper} (k : Nat) (name : String) (tys : Array TypeId) (ho : o.op = .call { callee := .invoke (.tmp k) name, args := #[], argTypes := tys }) (T : TypeId) (r : Value) (f : FuncId) (hx : a.eval (.tmp k) = .iface T r) (hm : Meth T r name f) (w : World) :
    (execOp a.eval o).run Tryz.prog w = .ok (.enter f #[r]) w := by
  simp only [Act.eval] at hx
  simp [go_sem, execOp, ho, hx, Act.eval, hm.at, hm.2.1]
theorem invoke_run1 {a : Act} {o : Oper} (k j : Nat) (name : String) (tys : Array TypeId) (ho : o.op = .call { callee := .invoke (.tmp k) name, args := #[.tmp j], argTypes := tys }) (T : TypeId) (r u : Value) (f : FuncId) (hx : a.eval (.tmp k) = .iface T r) (hu : a.eval (.tmp j) = u) (hm : Meth T r name f) (w : World) :
    (execOp a.eval o).run Tryz.prog w = .ok (.enter f #[r, u]) w := by
  simp only [Act.eval] at hx hu
  simp [go_sem, execOp, ho, hx, hu, Act.eval, hm.at, hm.2.1]
theorem Meth.nil {T : TypeId} {r : Value} {name : String} {f : FuncId} (h : Meth T r name f) (n : Nat) (W : World) (hn : 0 < n) : Sem.run Tryz.prog (nilAhead n T r name) W = .ok (some false) W := by
  obtain ⟨k, rfl⟩ : ∃ k, n = k + 1 := ⟨n - 1, by omega⟩
  exact h.2.2 k W
theorem nilCheck_run {a : Act} {o : Oper} (k : Nat) (name : String) (ho : o.op = .nilCheck (.tmp k)) (T : TypeId) (r : Value) (f : FuncId) (hx : a.eval (.tmp k) = .func (.method name) #[.iface T r] #[]) (hm : Meth T r name f) (w : World) :
    (execOp a.eval o).run Tryz.prog w = .ok (.value (.func (.method name) #[.iface T r] #[])) w := by
  simp only [Act.eval] at hx
  simp [go_sem, execOp, ho, hx, Act.eval, hm.nil]
/-- that a method's receiver is there, in a walk that keeps a class of worlds -/
theorem quiet_nil {ops : Array Oper} {C : World → Prop} {Q : Act → Prop} {a : Act} {o : Oper} {rest : List Oper} (hg : Region.wanted o (yielded ops a.tmps) = true) (k : Nat) (name : String)
    (ho : o.op = .nilCheck (.tmp k)) (T : TypeId) (r : Value) (f : FuncId) (hx : a.eval (.tmp k) = .func (.method name) #[.iface T r] #[]) (hm : Meth T r name f)
    (h : wpQuiet Tryz.prog ops C Q rest (a.put o.dst (.func (.method name) #[.iface T r] #[]))) : wpQuiet Tryz.prog ops C Q (o :: rest) a := by
  refine BigFrame.wpQuiet_want hg (fun K hK => ⟨_, fun w hw => ?_, hK _ h⟩)
  unfold Oper.quietAt
  rw [nilCheck_run k name ho T r f hx hm w]
  exact ⟨rfl, rfl⟩
/-- a call of a method by an interface, in a walk that keeps a class of worlds -/
theorem quiet_invoke0 {ops : Array Oper} {C : World → Prop} {Q : Act → Prop} {a : Act} {o : Oper} {rest : List Oper} (hg : Region.wanted o (yielded ops a.tmps) = true) (k : Nat) (name : String) (tys : Array TypeId)
    (ho : o.op = .call { callee := .invoke (.tmp k) name, args := #[], argTypes := tys }) (T : TypeId) (r : Value) (f : FuncId) (v : Value) (hx : a.eval (.tmp k) = .iface T r) (hm : Meth T r name f)
    (hc : ∀ w, C w → Calls Tryz.prog f #[r] w fun e w' => e = .returned v ∧ C w') (h : wpQuiet Tryz.prog ops C Q rest (a.put o.dst v)) : wpQuiet Tryz.prog ops C Q (o :: rest) a := by
  refine BigFrame.wpQuiet_want hg (fun K hK => ⟨v, fun w hw => ?_, hK _ h⟩)
  unfold Oper.quietAt
  rw [invoke_run0 k name tys ho T r f hx hm w]
  exact ⟨rfl, hc w hw⟩
theorem quiet_invoke1 {ops : Array Oper} {C : World → Prop} {Q : Act → Prop} {a : Act} {o : Oper} {rest : List Oper} (hg : Region.wanted o (yielded ops a.tmps) = true) (k j : Nat) (name : String) (tys : Array TypeId)
    (ho : o.op = .call { callee := .invoke (.tmp k) name, args := #[.tmp j], argTypes := tys }) (T : TypeId) (r u : Value) (f : FuncId) (v : Value) (hx : a.eval (.tmp k) = .iface T r) (hu : a.eval (.tmp j) = u) (hm : Meth T r name f)
    (hc : ∀ w, C w → Calls Tryz.prog f #[r, u] w fun e w' => e = .returned v ∧ C w') (h : wpQuiet Tryz.prog ops C Q rest (a.put o.dst v)) : wpQuiet Tryz.prog ops C Q (o :: rest) a := by
  refine BigFrame.wpQuiet_want hg (fun K hK => ⟨v, fun w hw => ?_, hK _ h⟩)
  unfold Oper.quietAt
  rw [invoke_run1 k j name tys ho T r u f hx hu hm w]
  exact ⟨rfl, hc w hw⟩

end Go.Proofs.YtlcglclojlffgaaGreatDoor
namespace Go.Proofs.YtlcglclojlffgaaGreatDoor
open Go.RowKit

set_option maxRecDepth 100000 in
set_option maxHeartbeats 2000000 in
theorem textWidth_any (m n : Nat) (T : TypeId) (r : Value) (fv fg fb fw : FuncId) (bk : Option Nat) (w : World) (hn : n ≤ 100000) (hM : ModeM w m T r fv fg fb fw bk) :
    Calls Tryz.prog 236 #[.iface T r, .int .i64 (n : Int)] w fun e w' => e = .returned (.int .i64 (txtW m n : Nat)) ∧ Below w.heap.size w w' := by
  obtain ⟨g1, g3⟩ := grpM_bd m
  have HT := Lib.hid (show txtW m n = n / grpM m * widM m (grpM m) + if n % grpM m > 0 then widM m (n % grpM m) else 0 from rfl)
  obtain ⟨G, hG⟩ : ∃ G, G = grpM m := ⟨_, rfl⟩
  have HG := Lib.hid hG
  rw [← hG] at g1 g3 HT
  obtain ⟨Q, hQ⟩ : ∃ Q, Q = n / G := ⟨_, rfl⟩
  obtain ⟨R, hR⟩ : ∃ R, R = n % G := ⟨_, rfl⟩
  have hQb : Q ≤ n := by rw [hQ]; exact Nat.div_le_self _ _
  have hRb : R < G := by rw [hR]; exact Nat.mod_lt _ (by omega)
  have hq : (n : Int) / (G : Int) = (Q : Int) := by rw [hQ]; push_cast; rfl
  have hr : (n : Int) % (G : Int) = (R : Int) := by rw [hR]; push_cast; rfl
  have hW := widM_bd m G g1 g3
  obtain ⟨W, hWe⟩ : ∃ W, W = widM m G := ⟨_, rfl⟩
  rw [← hQ, ← hR, ← hWe] at HT
  rw [← hWe] at hW
  have hP : Q * W ≤ 100000 * 24 := Nat.mul_le_mul (by omega) (by omega)
  obtain ⟨P, hPe⟩ : ∃ P, P = Q * W := ⟨_, rfl⟩
  rw [← hPe] at hP HT
  have hw : wrap64 ((Q : Int) * (W : Int)) = (P : Int) := by
    have : (Q : Int) * (W : Int) = (P : Int) := by rw [hPe]; push_cast; rfl
    rw [this]; unfold wrap64; omega
  have HM := Lib.hid hM
  have hmg := hM.mg.1
  have hmw := hM.mw.1
  have hcg := hM.mg.2.1
  have hcw := hM.mw.2.1
  have HWe := Lib.hid hWe
  clear hQ hR hWe hPe hG hM
  have HCg : Hid (∀ w', Below w.heap.size w w' → Calls Tryz.prog fg #[r] w' fun e w'' => e = .returned (.int .i64 (G : Int)) ∧ Below w'.heap.size w' w'') := Lib.hid (fun w' _ => by rw [HG.out]; exact HM.out.cg w')
  have HCw : Hid (∀ w', Below w.heap.size w w' → Calls Tryz.prog fw #[r, .int .i64 (G : Int)] w' fun e w'' => e = .returned (.int .i64 (W : Int)) ∧ Below w'.heap.size w' w'') := Lib.hid (fun w' hb => by rw [HWe.out]; exact HM.out.cw G w' g1 (by rw [HG.out]; exact Nat.le_refl _) (fun b e => hb.block b (HM.out.lt b e)))
  go_enter Tryz.func236, Tryz.ntmps236
  go_wp2_with fail
  refine wp_region_ext (by kernel_rfl) (by kernel_rfl) ?_
  repeat (first
    | (go_big_quiet_step (fail))
    | (refine quiet_nil rfl 14 "loop.example/g00879/impl.width" rfl T r fw rfl HM.out.mw ?_; simp only [Act.put, List.setIfInBounds_toArray, List.set_cons_zero, List.set_cons_succ])
    | (refine quiet_invoke0 rfl 8 "loop.example/g00879/impl.group" _ rfl T r fg (.int .i64 (G : Int)) rfl HM.out.mg (fun _ ⟨s, hs⟩ => by subst hs; exact calls_ext s (HCg.out _ s.below)) ?_; simp only [Act.put, List.setIfInBounds_toArray, List.set_cons_zero, List.set_cons_succ])
    | (refine quiet_invoke0 rfl 12 "loop.example/g00879/impl.group" _ rfl T r fg (.int .i64 (G : Int)) rfl HM.out.mg (fun _ ⟨s, hs⟩ => by subst hs; exact calls_ext s (HCg.out _ s.below)) ?_; simp only [Act.put, List.setIfInBounds_toArray, List.set_cons_zero, List.set_cons_succ])
    | (refine quiet_invoke1 rfl 16 13 "loop.example/g00879/impl.width" _ rfl T r _ fw (.int .i64 (W : Int)) rfl rfl HM.out.mw (fun _ ⟨s, hs⟩ => by subst hs; exact calls_ext s (HCw.out _ s.below)) ?_; simp only [Act.put, List.setIfInBounds_toArray, List.set_cons_zero, List.set_cons_succ]))
  refine wpQuiet_nil ?_
  rintro _ ⟨s, rfl⟩
  have HS := Lib.hid s.below
  go_wp2_with fail
  refine (HCg.out _ HS.out).mono ?_
  rintro e w2 ⟨rfl, hb2⟩
  have HB2 := Lib.hid (bt0 HS.out hb2 (Nat.le_refl _))
  clear hb2
  by_cases h0 : 0 < R
  · have hRi : (0 : Int) < (R : Int) := by omega
    have HCr := Lib.hid (HM.out.cw R w2 h0 (by rw [← HG.out]; omega) (fun b e => HB2.out.block b (HM.out.lt b e)))
    have hWr := widM_bd m R h0 (by omega)
    obtain ⟨V, hV⟩ : ∃ V, V = widM m R := ⟨_, rfl⟩
    rw [← hV] at HCr hWr HT
    rw [if_pos h0] at HT
    clear hV h0
    go_wp2_with fail
    refine HCr.out.mono ?_
    rintro e w3 ⟨rfl, hb3⟩
    have HB3 := Lib.hid (bt0 HB2.out hb3 (Nat.le_refl _))
    clear hb3
    go_wp2_with fail
    go_ret
    exact ⟨ret_int (by rw [HT.out]; push_cast; rfl), HB3.out⟩
  · obtain rfl : R = 0 := by omega
    rw [if_neg (by omega), Nat.add_zero] at HT
    go_wp2_with fail
    go_ret
    exact ⟨ret_int (by rw [HT.out]), HB2.out⟩
set_option maxRecDepth 100000 in
set_option maxHeartbeats 1000000 in
theorem segmentWidth_any (m n : Nat) (T : TypeId) (r : Value) (fv fg fb fw : FuncId) (bk : Option Nat) (w : World) (hn : n ≤ 100000) (hM : ModeM w m T r fv fg fb fw bk) :
    Calls Tryz.prog 226 #[.iface T r, .int .i64 (n : Int)] w fun e w' => e = .returned (.int .i64 (segW m n : Nat)) ∧ Below w.heap.size w w' := by
  have h1 := txtW_le m n
  have HS := Lib.hid (show segW m n = 11 + txtW m n from rfl)
  have HM := Lib.hid hM
  obtain ⟨V, hV⟩ : ∃ V, V = txtW m n := ⟨_, rfl⟩
  rw [← hV] at h1 HS
  have HV := Lib.hid hV
  clear hM hV
  go_enter Tryz.func226, Tryz.ntmps226
  go_wp2_with fail
  refine (textWidth_any m n T r fv fg fb fw bk _ hn HM.out).mono ?_
  rw [← HV.out]
  rintro e w2 ⟨rfl, hb2⟩
  have HB2 := Lib.hid hb2
  clear hb2
  go_wp2_with fail
  go_ret
  exact ⟨ret_int (by rw [HS.out]; push_cast; rfl), HB2.out⟩

end Go.Proofs.YtlcglclojlffgaaGreatDoor
namespace Go.Proofs.YtlcglclojlffgaaGreatDoor
open Go.RowKit

theorem grownBy_below {w w' : World} (hb : Below w.heap.size w w') (row : Option Nat) : w.grownBy w' row := ⟨hb.os, hb.tape, hb.output, hb.size, fun k hk _ => hb.block k hk⟩
theorem setCell_blk {w : World} {b : Nat} {C : Array Value} {t : TypeId} (h : w.heap[b]? = some (.cells C t (0, 0))) (i : Nat) (v : Value) : (w.setCell ⟨b, i, none⟩ v).heap[b]? = some (.cells (C.setIfInBounds i v) t (0, 0)) := by
  rw [setCell_eq_setRow w b _ C t (0, 0) _ h]
  exact setRow_heap w b _ _ t _ h
theorem wid_zero : Tryz.zeroCells290.size = 1280 := by kernel_rfl
/-- the widths of segments, filled up to mode m, length n -/
structure WidTo (m n : Nat) (C : Array Value) : Prop where
  size : C.size = 1280
  at' : ∀ i j, 1 ≤ i → i ≤ 4 → 1 ≤ j → j ≤ 255 → (i < m ∨ (i = m ∧ j < n)) → C[i * 256 + j]? = some (.int .i64 (segW i j : Nat))
theorem WidTo.step {m n : Nat} {C : Array Value} (h : WidTo m n C) (_hm : 1 ≤ m) (hm4 : m ≤ 4) (hn : n ≤ 255) : WidTo m (n + 1) (C.setIfInBounds (m * 256 + n) (.int .i64 (segW m n : Nat))) := by
  have hs := h.size
  refine ⟨by simp [hs], fun i j h1 h2 h3 h4 h5 => ?_⟩
  by_cases e : i = m ∧ j = n
  · obtain ⟨rfl, rfl⟩ := e
    rw [Array.getElem?_setIfInBounds_self_of_lt (by omega)]
  · rw [Array.getElem?_setIfInBounds_ne (by omega)]
    exact h.at' i j h1 h2 h3 h4 (by omega)
theorem WidTo.next {m : Nat} {C : Array Value} (h : WidTo m 256 C) : WidTo (m + 1) 1 C := ⟨h.size, fun i j h1 h2 h3 h4 h5 => h.at' i j h1 h2 h3 h4 (by omega)⟩
/-- the widths at a block -/
def WidAt (w : World) (b : Nat) : Prop := ∃ C t, w.heap[b]? = some (.cells C t (0, 0)) ∧ WidTo 5 1 C
theorem WidAt.below {w w' : World} {b : Nat} (h : WidAt w b) (hb : Below w.heap.size w w') : WidAt w' b := by
  obtain ⟨C, t, h1, h2⟩ := h
  exact ⟨C, t, blkK hb h1, h2⟩
theorem WidAt.cell {w : World} {b : Nat} (h : WidAt w b) {m n : Nat} (h1 : 1 ≤ m) (h2 : m ≤ 4) (h3 : 1 ≤ n) (h4 : n ≤ 255) : w.cell? ⟨b, m * 256 + n, none⟩ = some (.int .i64 (segW m n : Nat)) ∧ b < w.heap.size := by
  obtain ⟨C, t, k1, k2⟩ := h
  exact ⟨by rw [(heap_cellR k1).1]; exact k2.at' m n h1 h2 h3 h4 (by omega), blkLt k1⟩
set_option maxRecDepth 100000 in
set_option maxHeartbeats 2000000 in
theorem widths_any (w : World) :
    Calls Tryz.prog 217 #[] w fun e w' => e = .returned (.pointer (some ⟨w.heap.size, 0, none⟩)) ∧ WidAt w' w.heap.size ∧ Below w.heap.size w w' := by
  go_enter Tryz.func217, Tryz.ntmps217
  go_wp2_with fail
  go_loopw [2, 3, 4, 5] (fun i _ _ _ wr => ∃ (m : Nat) (C : Array Value), 1 ≤ m ∧ m ≤ 5 ∧ i = .int .i64 m ∧ wr.heap[w.heap.size]? = some (.cells C 290 (0, 0)) ∧ WidTo m 1 C ∧ Below w.heap.size w wr) (fun i _ _ _ _ => 5 - (intOf i).toNat)
  case atStart => exact ⟨1, _, by omega, by omega, rfl, push_at _ _, ⟨wid_zero, fun i j h1 h2 h3 h4 h5 => by omega⟩, ba1 _ _⟩
  case round =>
    obtain ⟨m, C, hm1, hm5, rfl, hC, hW, hb⟩ := hrel
    have HC := Lib.hid hC
    have HW := Lib.hid hW
    have HB := Lib.hid hb
    clear hC hW hb
    by_cases hlt : m ≤ 4
    · have hdec : decide ((m : Int) ≤ 4) = true := by simp; omega
      go_wp2_with fail
      refine (modeOf_any m hm1 hlt _).mono ?_
      rintro e w2 ⟨hb2, T, r, fv, fg, fb, fw, bk, rfl, hM, hbk⟩
      have HM := Lib.hid hM
      have HC2 := Lib.hid (blkK hb2 HC.out)
      have HB2 := Lib.hid (bt0 HB.out hb2 (Nat.le_refl _))
      have HBK := Lib.hid (fun b (e : bk = some b) => Nat.lt_of_lt_of_le (blkLt HC.out) (hbk b e))
      clear hb2 hM hbk
      go_wp2_with fail
      go_loopw [5] (fun j wr => ∃ (n : Nat) (C : Array Value), 1 ≤ n ∧ n ≤ 256 ∧ j = .int .i64 n ∧ wr.heap[w.heap.size]? = some (.cells C 290 (0, 0)) ∧ WidTo m n C ∧ Below w.heap.size w wr ∧ w2.grownBy wr (some w.heap.size)) (fun j _ => 256 - (intOf j).toNat)
      case atStart => exact ⟨1, _, by omega, by omega, rfl, HC2.out, HW.out, HB2.out, grownBy_refl _ _⟩
      case round =>
        obtain ⟨n, C', hn1, hn2, rfl, hC, hW, hb, hk⟩ := hrel
        have HC3 := Lib.hid hC
        have HW3 := Lib.hid hW
        have HB3 := Lib.hid hb
        have HK3 := Lib.hid hk
        have hlb := blkLt hC
        clear hC hW hb hk
        by_cases hln : n ≤ 255
        · have hdec : decide ((n : Int) ≤ 255) = true := by simp; omega
          have hsz : C'.size = 1280 := HW3.out.size
          obtain ⟨hcc, hff⟩ := heap_cellR HC3.out
          obtain ⟨v0, hv0⟩ : ∃ v, wr.cell? ⟨w.heap.size, m * 256 + n, none⟩ = some v := ⟨_, by rw [hcc]; exact Array.getElem?_eq_getElem (by omega)⟩
          have HM3 := Lib.hid (HM.out.kept HK3.out.size (fun b e => HK3.out.block b (HM.out.lt b e) (fun h => by cases h; exact absurd (HBK.out _ e) (Nat.lt_irrefl _))))
          go_wp2_with fail
          refine wp_region_ext_tail 9 (by kernel_rfl) (by kernel_rfl) ?_
          simp only [List.take_succ_cons, List.take_zero, List.drop_succ_cons, List.drop_zero]
          repeat (go_big_quiet_step ((go_at_call 226; go_must (exact calls_ext _ (segmentWidth_any m n T r fv fg fb fw bk _ (by omega) (HM3.out.below (Ext.below _)))))))
          refine wpQuiet_nil ?_
          rintro _ ⟨s, rfl⟩
          have hv1 := below_cell s.below hv0
          have hf1 := (s.below.frozen (p := ⟨w.heap.size, m * 256 + n, none⟩) hlb).trans (hff _)
          have HC4 := Lib.hid (blkK s.below HC3.out)
          clear hcc hff hv0
          go_wp2_with fail
          refine ⟨⟨n + 1, _, by omega, by omega, by go_num, ?_, HW3.out.step hm1 hlt hln, ?_, ?_⟩, by simp [intOf]; omega⟩
          · exact setCell_blk HC4.out _ _
          · exact (bt0 HB3.out s.below (Nat.le_refl _)).setCell (Nat.le_refl _) _
          · exact grownBy_trans (grownBy_trans HK3.out (grownBy_below s.below _)) (grownBy_set _ _ _ _)
        · have hdec : decide ((n : Int) ≤ 255) = false := by simp; omega
          obtain rfl : n = 256 := by omega
          go_wp2_with fail
          exact ⟨⟨m + 1, C', by omega, by omega, by go_num, HC3.out, HW3.out.next, HB3.out⟩, by simp [intOf]; omega⟩
    · have hdec : decide ((m : Int) ≤ 4) = false := by simp; omega
      obtain rfl : m = 5 := by omega
      go_wp2_with fail
      go_ret
      exact ⟨rfl, ⟨C, _, HC.out, HW.out⟩, HB.out⟩

end Go.Proofs.YtlcglclojlffgaaGreatDoor
namespace Go.Proofs.YtlcglclojlffgaaGreatDoor
open Go.RowKit Go.Conc

/-- a number is received -/
theorem opsTo_recvI (d : Option Tmp) {ops : Array Oper} {Q : Exit → Act → World → Prop} {i : Nat} {rest : List Nat} {o : Oper} {a : Act} {z : Int} {zz : Value} {w : World} {b n : Nat} {l : List Int} {cl : Bool} (ho : ops[i]? = some o) (hw : Region.wanted o (yielded ops a.tmps) = true)
    (hd : o.dst = d) (hr : (execOp a.eval o).run Tryz.prog w = .ok (.comm #[rcase b zz] true (.recv true)) w) (hc : ChAt w b n (z :: l) cl)
    (h : ∀ w', ChAt w' b n l cl → w.grownBy w' (some b) → OpsTo Tryz.prog ops Q rest (a.put d (.tuple #[.int .i64 z, .bool true])) w') : OpsTo Tryz.prog ops Q (i :: rest) a w := by
  subst hd
  have hl := hc.lt
  obtain ⟨s, r, hg⟩ := hc
  have h2 := h (w.setChan b n ((((z :: l).map (Value.int .i64)).toArray).extract 1 (((z :: l).map (Value.int .i64)).toArray).size) cl s (r + 1) false)
    ⟨s, r + 1, by rw [heap_setChan _ _ _ _ _ _ _ _ hl]; simp; exact List.take_of_length_le (by simp)⟩
    ⟨rfl, rfl, rfl, by simp [World.setChan], fun k hk hne => by
      simp only [World.setChan]
      rw [Array.getElem?_setIfInBounds_ne (fun e => hne (by rw [e]))]⟩
  refine opsTo_recv ho hw hr hg (by simp) ?_
  have e : ((((z :: l).map (Value.int .i64)).toArray).extract 1 (((z :: l).map (Value.int .i64)).toArray).size) = (l.map (Value.int .i64)).toArray := by
    simp
    exact List.take_of_length_le (by simp)
  simpa [got] using h2
theorem opsTo_shutI (d : Option Tmp) {ops : Array Oper} {Q : Exit → Act → World → Prop} {i : Nat} {rest : List Nat} {o : Oper} {a : Act} {zz : Value} {w : World} {b n : Nat} (ho : ops[i]? = some o) (hw : Region.wanted o (yielded ops a.tmps) = true)
    (hd : o.dst = d) (hr : (execOp a.eval o).run Tryz.prog w = .ok (.comm #[rcase b zz] true (.recv true)) w) (hc : ChAt w b n [] true)
    (h : OpsTo Tryz.prog ops Q rest (a.put d (.tuple #[zz, .bool false])) w) : OpsTo Tryz.prog ops Q (i :: rest) a w := by
  subst hd
  obtain ⟨s, r, hg⟩ := hc
  exact opsTo_shut ho hw hr hg (by simpa [got] using h)
theorem or_bit (n : Nat) (b : Int) (hn : n < 1000000) (hb : b = 0 ∨ b = 1) : bits .or .i64 ((n : Int) * 2) b = (n : Int) * 2 + b := by
  have e : (n : Int) * 2 = ((n * 2 : Nat) : Int) := by push_cast; rfl
  rcases hb with rfl | rfl
  · have h := or64 (n * 2) 0 (by omega) (by omega)
    rw [Nat.or_zero] at h
    rw [e]
    simpa using h
  · have h := or64 (n * 2) 1 (by omega) (by omega)
    have h2 : n * 2 ||| 1 = n * 2 + 1 := by
      have := Nat.shiftLeft_add_eq_or_of_lt (i := 1) (b := 1) (by omega) n
      rw [Nat.shiftLeft_eq] at this
      simpa using this.symm
    rw [h2] at h
    rw [e]
    have h3 : ((n * 2 + 1 : Nat) : Int) = ((n * 2 : Nat) : Int) + 1 := by push_cast; rfl
    rw [← h3]
    exact h
theorem grownBy_low {w W W' : World} {row : Option Nat} (h : w.grownBy W row) (hb : Below w.heap.size W W') : w.grownBy W' row := ⟨hb.os.trans h.os, hb.tape.trans h.tape, hb.output.trans h.output, Nat.le_trans h.size hb.size, fun k hk hne => (hb.block k hk).trans (h.block k hk hne)⟩
theorem ChAt.low {B : Nat} {w w' : World} {b n : Nat} {l : List Int} {cl : Bool} (h : ChAt w b n l cl) (hb : Below B w w') (hlt : b < B) : ChAt w' b n l cl := by
  obtain ⟨s, r, h⟩ := h
  exact ⟨s, r, (hb.block b hlt).trans h⟩
theorem mod_up {k w h : Nat} (hh : h = k % w) : (h + 1 = w → (k + 1) % w = 0) ∧ (h + 1 < w → (k + 1) % w = h + 1) := by
  have e := Nat.div_add_mod k w
  rw [← hh] at e
  refine ⟨fun h1 => ?_, fun h1 => ?_⟩
  · rw [show k + 1 = w * (k / w + 1) by rw [Nat.mul_add, Nat.mul_one]; omega]
    exact Nat.mul_mod_right _ _
  · rw [show k + 1 = w * (k / w) + (h + 1) by omega, Nat.mul_add_mod]
    exact Nat.mod_eq_of_lt h1
/-- elements of the call's own are handed back -/
def RetElems (cb : Nat) (m : List Int) (w : World) (e : Ending) (w' : World) : Prop := ∃ a c m', m' = m ∧ e = .returned (.slice a m'.length c) ∧ OwnI w' w.heap.size (.slice a m'.length c) m' ∧ w.grownBy w' (some cb)
end Go.Proofs.YtlcglclojlffgaaGreatDoor
namespace Go.Proofs.YtlcglclojlffgaaGreatDoor
open Go.RowKit

theorem grpsF_any (m : Nat) : ∀ (f g : Nat) (t : List UInt8), t.length ≤ f → t.length ≤ g → grpsF m f t = grpsF m g t
  | 0, 0, _, _, _ => rfl
  | 0, g + 1, [], _, _ => rfl
  | 0, g + 1, c :: l, h, _ => by simp at h
  | f + 1, 0, [], _, _ => rfl
  | f + 1, 0, c :: l, _, h => by simp at h
  | f + 1, g + 1, [], _, _ => rfl
  | f + 1, g + 1, c :: l, hf, hg => by
    obtain ⟨h1, h2⟩ := grpM_bd m
    rw [grpsF, grpsF]
    congr 1
    apply grpsF_any <;> rw [List.length_drop] <;> simp at hf hg ⊢ <;> omega
theorem numC_snoc (m : Nat) (u : List UInt8) (b : UInt8) : numC m (u ++ [b]) = numC m u * baseM m + (valC m b.toNat).toNat := by simp [numC]
theorem baseM_le (m : Nat) : 1 ≤ baseM m ∧ baseM m ≤ 256 := by unfold baseM; split <;> omega
theorem numC_bd (m : Nat) : ∀ (n : Nat) (u : List UInt8), u.length = n → numC m u < 256 ^ n
  | 0, u, hn => by
    obtain rfl := List.eq_nil_of_length_eq_zero hn
    simp [numC]
  | n + 1, u, hn => by
    rcases List.eq_nil_or_concat u with rfl | ⟨u', b, rfl⟩
    · simp at hn
    · rw [List.concat_eq_append] at hn ⊢
      rw [List.length_append] at hn
      have h1 := numC_bd m n u' (by simpa using hn)
      have h2 := valC_le m (b.toNat : Int) (by have := b.toNat_lt; omega)
      have h3 := (baseM_le m).2
      rw [numC_snoc, Nat.pow_succ]
      have h4 : numC m u' * baseM m ≤ numC m u' * 256 := Nat.mul_le_mul_left _ h3
      omega
theorem numC_low (m : Nat) (u : List UInt8) (h : u.length ≤ 3) : numC m u < 16777216 := by
  have h1 := numC_bd m _ u rfl
  have h2 : 256 ^ u.length ≤ 256 ^ 3 := Nat.pow_le_pow_right (by decide) h
  omega
theorem wrap_two {x : Int} {P V : Nat} (e : x = (P : Int)) (hP : P ≤ 4294967296) (hV : V ≤ 1000) : wrap64 (wrap64 x + (V : Int)) = ((P + V : Nat) : Int) := by
  subst e; unfold wrap64; omega
end Go.Proofs.YtlcglclojlffgaaGreatDoor
namespace Go.Proofs.YtlcglclojlffgaaGreatDoor
open Go.RowKit

/-- how many bytes in a row each mode has had, in an array -/
def RchAt (w : World) (b : Nat) (f : Nat → Nat) : Prop := ∃ C t, w.heap[b]? = some (.cells C t (0, 0)) ∧ C.size = 5 ∧ ∀ i, 1 ≤ i → i ≤ 4 → C[i]? = some (.int .i64 (f i : Nat))
theorem RchAt.kept {w w' : World} {b : Nat} {f : Nat → Nat} (h : RchAt w b f) (hk : w'.heap[b]? = w.heap[b]?) : RchAt w' b f := by
  obtain ⟨C, t, h1, h2, h3⟩ := h
  exact ⟨C, t, hk.trans h1, h2, h3⟩
theorem RchAt.lt {w : World} {b : Nat} {f : Nat → Nat} (h : RchAt w b f) : b < w.heap.size := by
  obtain ⟨C, t, h1, h2, h3⟩ := h
  exact blkLt h1
theorem RchAt.below {w w' : World} {b : Nat} {f : Nat → Nat} (h : RchAt w b f) (hb : Below w.heap.size w w') : RchAt w' b f := h.kept (hb.block b h.lt)
theorem RchAt.cell {w : World} {b : Nat} {f : Nat → Nat} (h : RchAt w b f) {i : Nat} (h1 : 1 ≤ i) (h4 : i ≤ 4) : w.cell? ⟨b, i, none⟩ = some (.int .i64 (f i : Nat)) ∧ w.frozen? ⟨b, i, none⟩ = false := by
  obtain ⟨C, t, k1, k2, k3⟩ := h
  exact ⟨by rw [(heap_cellR k1).1]; exact k3 i h1 h4, (heap_cellR k1).2 i⟩
theorem RchAt.set {w : World} {b : Nat} {f g : Nat → Nat} (h : RchAt w b f) {i : Nat} (h1 : 1 ≤ i) (h4 : i ≤ 4) (z : Int) (hz : z = (g i : Nat)) (hg : ∀ j, j ≠ i → g j = f j) : RchAt (w.setCell ⟨b, i, none⟩ (.int .i64 z)) b g := by
  subst hz
  obtain ⟨C, t, k1, k2, k3⟩ := h
  refine ⟨_, t, setCell_blk k1 _ _, by simp [k2], fun j j1 j4 => ?_⟩
  by_cases e : j = i
  · subst e
    rw [Array.getElem?_setIfInBounds_self_of_lt (by omega)]
  · rw [Array.getElem?_setIfInBounds_ne (by omega), k3 j j1 j4, hg j e]
theorem RchAt.like {w : World} {b : Nat} {f g : Nat → Nat} (h : RchAt w b f) (hg : ∀ i, 1 ≤ i → i ≤ 4 → g i = f i) : RchAt w b g := by
  obtain ⟨C, t, k1, k2, k3⟩ := h
  exact ⟨C, t, k1, k2, fun i h1 h4 => by rw [k3 i h1 h4, hg i h1 h4]⟩
/-- a byte more -/
def tkN (f : Nat → Nat) (c : UInt8) (i : Nat) : Nat := if inM i c then min (f i + 1) 255 else 0
def tkTo (f : Nat → Nat) (c : UInt8) (m i : Nat) : Nat := if i < m then tkN f c i else f i
theorem tkTo_ne (f : Nat → Nat) (c : UInt8) {m j : Nat} (h : j ≠ m) : tkTo f c (m + 1) j = tkTo f c m j := by
  unfold tkTo
  by_cases h1 : j < m
  · rw [if_pos h1, if_pos (by omega)]
  · rw [if_neg h1, if_neg (by omega)]
theorem tkTo_at (f : Nat → Nat) (c : UInt8) (m : Nat) : tkTo f c (m + 1) m = tkN f c m := by unfold tkTo; rw [if_pos (by omega)]
theorem tkTo_old (f : Nat → Nat) (c : UInt8) (m : Nat) : tkTo f c m m = f m := by unfold tkTo; rw [if_neg (by omega)]
set_option maxRecDepth 100000 in
set_option maxHeartbeats 2000000 in
theorem take_any (b : Nat) (f : Nat → Nat) (hf : ∀ i, f i ≤ 255) (c : UInt8) (z : Nat) (hz : z = c.toNat) (w : World) (hR : RchAt w b f) :
    Calls Tryz.prog 218 #[.pointer (some ⟨b, 0, none⟩), .int .u8 (z : Int)] w fun e w' => e = .returned (.tuple #[]) ∧ RchAt w' b (tkN f c) ∧ w.grownBy w' (some b) := by
  have HR := Lib.hid hR
  have HF := Lib.hid hf
  have HZ := Lib.hid hz
  have hz255 : z ≤ 255 := by rw [hz]; have := c.toNat_lt; omega
  clear hR hf hz
  go_enter Tryz.func218, Tryz.ntmps218
  go_wp2_with fail
  go_loopw [4, 5, 6] (fun i _ _ wr => ∃ m : Nat, 1 ≤ m ∧ m ≤ 5 ∧ i = .int .i64 m ∧ RchAt wr b (tkTo f c m) ∧ w.grownBy wr (some b)) (fun i _ _ _ => 5 - (intOf i).toNat)
  case atStart => exact ⟨1, by omega, by omega, rfl, HR.out.like (fun i h1 h4 => by unfold tkTo; rw [if_neg (by omega)]), grownBy_refl _ _⟩
  case round =>
    obtain ⟨m, hm1, hm5, rfl, hr, hg⟩ := hrel
    have HRr := Lib.hid hr
    have HG := Lib.hid hg
    clear hr hg
    by_cases hlt : m ≤ 4
    · have hdec : decide ((m : Int) ≤ 4) = true := by simp; omega
      go_wp2_with fail
      refine (modeOf_any m hm1 hlt _).mono ?_
      rintro e w2 ⟨hb2, T, r, fv, fg, fb, fw, bk, rfl, hM, -⟩
      have HM := Lib.hid hM
      have HR2 := Lib.hid (HRr.out.below hb2)
      have HG2 := Lib.hid (grownBy_trans HG.out (grownBy_below hb2 (some b)))
      have hmv := hM.mv.1
      have hcv := hM.mv.2.1
      clear hb2 hM
      go_wp2_with fail
      refine (HM.out.cv _ _).mono ?_
      rintro e w3 ⟨rfl, hb3⟩
      have HV := Lib.hid (show (decide (0 ≤ valC m (z : Int))) = inM m c by rw [HZ.out]; rfl)
      have hv1 := valC_ge m (z : Int) (by omega)
      have hv2 := valC_le m (z : Int) (by omega)
      have HR3 := Lib.hid (HR2.out.below hb3)
      have HG3 := Lib.hid (grownBy_trans HG2.out (grownBy_below hb3 (some b)))
      obtain ⟨V, hV⟩ : ∃ V, V = valC m (z : Int) := ⟨_, rfl⟩
      rw [← hV] at HV hv1 hv2 ⊢
      obtain ⟨hc1, hf1⟩ := HR3.out.cell hm1 hlt
      rw [tkTo_old] at hc1
      have hlb := HR3.out.lt
      have hfm := HF.out m
      clear hb3 hV hmv hcv
      by_cases h0 : V < 0
      · have HN := Lib.hid (show tkN f c m = 0 by unfold tkN; rw [← HV.out, if_neg (by simp; omega)])
        go_wp2_with fail
        exact ⟨⟨m + 1, by omega, by omega, by go_num, HR3.out.set hm1 hlt _ (by rw [tkTo_at, HN.out]; rfl) (fun j hj => tkTo_ne f c hj), grownBy_trans HG3.out (grownBy_set _ _ _ _)⟩, by simp [intOf]; omega⟩
      · have HN := Lib.hid (show tkN f c m = min (f m + 1) 255 by unfold tkN; rw [← HV.out, if_pos (by simp; omega)])
        go_wp2_with fail
        refine wp_region_ext_tail 11 (by kernel_rfl) (by kernel_rfl) ?_
        simp only [List.take_succ_cons, List.take_zero, List.drop_succ_cons, List.drop_zero]
        repeat (go_big_quiet_step (fail))
        refine wpQuiet_nil ?_
        rintro _ ⟨s, rfl⟩
        have hv1 := below_cell s.below hc1
        have hf1' := (s.below.frozen (p := ⟨b, m, none⟩) hlb).trans hf1
        have HR4 := Lib.hid (HR3.out.below s.below)
        have HG4 := Lib.hid (grownBy_trans HG3.out (grownBy_below s.below (some b)))
        clear hc1 hf1
        go_wp2_with fail
        refine ⟨⟨m + 1, by omega, by omega, by go_num, HR4.out.set hm1 hlt _ ?_ (fun j hj => tkTo_ne f c hj), grownBy_trans HG4.out (grownBy_set _ _ _ _)⟩, by simp [intOf]; omega⟩
        rw [tkTo_at, HN.out]
        split <;> omega
    · have hdec : decide ((m : Int) ≤ 4) = false := by simp; omega
      obtain rfl : m = 5 := by omega
      go_wp2_with fail
      refine bodyPost_end (results_none rfl _ _ _) rfl ?_
      exact ⟨rfl, HRr.out.like (fun i h1 h4 => by unfold tkTo; rw [if_pos (by omega)]), HG.out⟩

end Go.Proofs.YtlcglclojlffgaaGreatDoor
namespace Go.Proofs.YtlcglclojlffgaaGreatDoor
open Go.RowKit

/-- a choice as a value -/
def chV (x : Ch) : Value := .agg #[.int .i64 x.l, .int .i64 x.c, .int .i64 x.t, .int .i64 x.m]
theorem bq_ne {a b : Int} (h : a ≠ b) : (a != b) = true := by rw [bne_iff_ne]; exact h
theorem bq_eq (a : Int) : (a != a) = false := by simp
set_option maxRecDepth 100000 in
set_option maxHeartbeats 1000000 in
theorem better_any (x y : Ch) (w : World) : Calls Tryz.prog 219 #[chV x, chV y] w fun e w' => e = .returned (.bool (chB x y)) ∧ Below w.heap.size w w' := by
  obtain ⟨a1, a2, a3, a4⟩ := x
  obtain ⟨b1, b2, b3, b4⟩ := y
  unfold chV
  have HD := Lib.hid (show chB ⟨a1, a2, a3, a4⟩ ⟨b1, b2, b3, b4⟩ = if (a1 != b1) then decide (a1 < b1) else if (a2 != b2) then decide (a2 < b2) else if (a3 != b3) then decide (b3 < a3) else decide (a4 < b4) from rfl)
  obtain ⟨R, hR⟩ : ∃ R, R = chB ⟨a1, a2, a3, a4⟩ ⟨b1, b2, b3, b4⟩ := ⟨_, rfl⟩
  rw [← hR] at HD ⊢
  clear hR
  dsimp only
  by_cases e1 : a1 = b1
  · subst e1
    by_cases e2 : a2 = b2
    · subst e2
      by_cases e3 : a3 = b3
      · subst e3
        rw [bq_eq, bq_eq, bq_eq] at HD
        go_enter Tryz.func219, Tryz.ntmps219
        go_wp2_with fail
        go_ret
        exact ⟨ret_bool HD.out.symm, ba2 _ _ _⟩
      · have h3 := bq_ne e3
        rw [bq_eq, bq_eq, h3] at HD
        clear e3
        go_enter Tryz.func219, Tryz.ntmps219
        go_wp2_with fail
        go_ret
        exact ⟨ret_bool HD.out.symm, ba2 _ _ _⟩
    · have h2 := bq_ne e2
      rw [bq_eq, h2] at HD
      clear e2
      go_enter Tryz.func219, Tryz.ntmps219
      go_wp2_with fail
      go_ret
      exact ⟨ret_bool HD.out.symm, ba2 _ _ _⟩
  · have h1 := bq_ne e1
    rw [h1] at HD
    clear e1
    go_enter Tryz.func219, Tryz.ntmps219
    go_wp2_with fail
    go_ret
    exact ⟨ret_bool HD.out.symm, ba2 _ _ _⟩

end Go.Proofs.YtlcglclojlffgaaGreatDoor
