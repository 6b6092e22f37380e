import Derived.Test.YtkmfgchbfchdbaaDoorM0
import Derived.Test.YtkmfgchbfchdbaaDoorVJn
import Derived.BigQuiet
namespace Go.Proofs.YtkmfgchbfchdbaaDoor
open Go.RowKit

theorem below_drewN {B : Nat} (w : World) (k : Nat) : Below B w (w.drewN k) := ⟨rfl, rfl, rfl, Nat.le_refl _, fun _ _ => rfl⟩
/-- what readDecimal answers -/
def RetDecR (w : World) (o : Option Int) (e : Ending) (w' : World) : Prop :=
  ∃ v : Int, e = .returned (.tuple #[.int .i64 v, .bool o.isSome]) ∧ (∀ n, o = some n → v = n) ∧ Below w.heap.size w w'
theorem retDecR_no {w w' : World} {o : Option Int} (h : o = none) (v : Int) (hb : Below w.heap.size w w') : RetDecR w o (.returned (.tuple #[.int .i64 v, .bool false])) w' := by
  subst h; exact ⟨v, rfl, fun n e => (by cases e), hb⟩
theorem retDecR_yes {w w' : World} {o : Option Int} {v : Int} (h : o = some v) (hb : Below w.heap.size w w') : RetDecR w o (.returned (.tuple #[.int .i64 v, .bool true])) w' := by
  subst h; exact ⟨v, rfl, fun n e => Option.some.inj e, hb⟩
theorem get0 {s : ByteArray} (h : 0 < s.size) : s.data.toList[0]? = some s[0] := by
  have hl : s.data.toList.length = s.size := rfl
  rw [List.getElem?_eq_getElem (by omega)]
  rfl

set_option maxRecDepth 100000 in
set_option maxHeartbeats 1000000 in
theorem readDecimal_any (s : ByteArray) (w : World) (hs : s.size ≤ 1048576) (hE : Env w) :
    Calls Tryd.prog 68 #[.string s] w (RetDecR w (rdec s.data.toList)) := by
  have HE := Lib.hid hE
  clear hE
  have hl : s.data.toList.length = s.size := rfl
  by_cases h0 : s.size = 0
  · have hd : s.data.toList = [] := List.eq_nil_of_length_eq_zero (by omega)
    have e : s = ⟨#[]⟩ := by apply ByteArray.ext; apply Array.toList_inj.1; exact hd
    subst e
    have HN := Lib.hid (show rdec (ByteArray.data ⟨#[]⟩).toList = none from rfl)
    go_enter Tryd.func68, Tryd.ntmps68
    go_wp2_with fail
    go_ret2
    exact retDecR_no HN.out _ (Below.refl _ _)
  have hp : 0 < s.size := by omega
  have hne : s.data.toList ≠ [] := fun e => by rw [e] at hl; simp at hl; omega
  have e0 : (s.toList == []) = false := by
    rw [Bool.eq_false_iff]; intro e
    rw [beq_iff_eq, ByteArray.toList_eq] at e
    exact hne e
  have hx := get0 hp
  obtain ⟨x, hxe⟩ : ∃ x, s[0] = x := ⟨_, rfl⟩
  rw [hxe] at hx
  have HX := Lib.hid hx
  clear hx hne h0
  by_cases h1 : 1 < s.size ∧ x.toNat = 48
  · have hi1 : (1 : Int) < ((s.size : Nat) : Int) := by omega
    have hi2 : (((s[0].toNat : Nat) : Int) == 48) = true := by rw [hxe, h1.2]; rfl
    have HN := Lib.hid (show rdec s.data.toList = none by
      rw [rdec, if_pos]
      exact .inr (.inl ⟨by omega, by rw [HX.out, show x = 48 from UInt8.toNat_inj.1 h1.2]⟩))
    clear h1 hxe
    go_enter Tryd.func68, Tryd.ntmps68
    go_wp2_with fail
    go_ret2
    exact retDecR_no HN.out _ (Below.refl _ _)
  by_cases h3 : x.toNat = 43
  · have hi2 : (((s[0].toNat : Nat) : Int) == 48) = false := by rw [hxe, h3]; rfl
    have hi3 : (((s[0].toNat : Nat) : Int) == 43) = true := by rw [hxe, h3]; rfl
    have HN := Lib.hid (show rdec s.data.toList = none by
      rw [rdec, if_pos]
      exact .inr (.inr (.inl (by rw [HX.out, show x = 43 from UInt8.toNat_inj.1 h3]))))
    clear h1 h3 hxe
    by_cases h5 : 1 < s.size
    · have hi1 : (1 : Int) < ((s.size : Nat) : Int) := by omega
      go_enter Tryd.func68, Tryd.ntmps68
      go_wp2_with fail
      go_ret2
      exact retDecR_no HN.out _ (Below.refl _ _)
    · have hi1 : ¬ (1 : Int) < ((s.size : Nat) : Int) := by omega
      go_enter Tryd.func68, Tryd.ntmps68
      go_wp2_with fail
      go_ret2
      exact retDecR_no HN.out _ (Below.refl _ _)
  by_cases h4 : x.toNat = 45
  · have hi2 : (((s[0].toNat : Nat) : Int) == 48) = false := by rw [hxe, h4]; rfl
    have hi3 : (((s[0].toNat : Nat) : Int) == 43) = false := by rw [hxe, h4]; rfl
    have hi4 : (((s[0].toNat : Nat) : Int) == 45) = true := by rw [hxe, h4]; rfl
    have HN := Lib.hid (show rdec s.data.toList = none by
      rw [rdec, if_pos]
      exact .inr (.inr (.inr (by rw [HX.out, show x = 45 from UInt8.toNat_inj.1 h4]))))
    clear h1 h3 h4 hxe
    by_cases h5 : 1 < s.size
    · have hi1 : (1 : Int) < ((s.size : Nat) : Int) := by omega
      go_enter Tryd.func68, Tryd.ntmps68
      go_wp2_with fail
      go_ret2
      exact retDecR_no HN.out _ (Below.refl _ _)
    · have hi1 : ¬ (1 : Int) < ((s.size : Nat) : Int) := by omega
      go_enter Tryd.func68, Tryd.ntmps68
      go_wp2_with fail
      go_ret2
      exact retDecR_no HN.out _ (Below.refl _ _)
  have hi3 : (((s[0].toNat : Nat) : Int) == 43) = false := by rw [hxe]; simp; omega
  have hi4 : (((s[0].toNat : Nat) : Int) == 45) = false := by rw [hxe]; simp; omega
  have HN := Lib.hid (show rdec s.data.toList = match Lib.parseIntB 64 s.data.toList with | .ok n => some n | _ => none by
    rw [rdec, if_neg]
    · cases Lib.parseIntB 64 s.data.toList <;> rfl
    rintro (h | ⟨h, h2⟩ | h | h)
    · rw [h] at hl; simp at hl; omega
    · rw [HX.out] at h2
      have := Option.some.inj h2
      exact h1 ⟨by omega, by rw [this]; rfl⟩
    · rw [HX.out] at h
      have := Option.some.inj h
      exact h3 (by rw [this]; rfl)
    · rw [HX.out] at h
      have := Option.some.inj h
      exact h4 (by rw [this]; rfl))
  have hg : Hid (∀ (e : Ending) (w' : World), ((∃ n, Lib.parseIntB 64 s.data.toList = .ok n ∧ e = .returned (.tuple #[.int .i64 n, .nilIface])) ∨ ((∀ n, Lib.parseIntB 64 s.data.toList ≠ .ok n) ∧ ∃ v t p, e = .returned (.tuple #[.int .i64 v, .iface t p]))) ∧ Below w.heap.size w w' → ((∃ n, rdec s.data.toList = some n ∧ e = .returned (.tuple #[.int .i64 n, .nilIface])) ∨ (rdec s.data.toList = none ∧ ∃ v t p, e = .returned (.tuple #[.int .i64 v, .iface t p]))) ∧ Below w.heap.size w w') := Lib.hid (by
    rintro e w' ⟨⟨n, hn, he⟩ | ⟨hn, he⟩, hb⟩
    · exact ⟨.inl ⟨n, by rw [HN.out, hn], he⟩, hb⟩
    · refine ⟨.inr ⟨?_, he⟩, hb⟩
      rw [HN.out]
      split
      · rename_i n hn2; exact absurd hn2 (hn n)
      · rfl)
  have hfin : (1 < s.size ∧ (((s[0].toNat : Nat) : Int) == 48) = false) ∨ ¬ 1 < s.size := by
    by_cases h5 : 1 < s.size
    · refine .inl ⟨h5, ?_⟩
      rw [hxe]; simp; intro h; exact h1 ⟨h5, by omega⟩
    · exact .inr h5
  clear h1 h3 h4 hxe
  rcases hfin with ⟨h5, hi2⟩ | h5
  · have hi1 : (1 : Int) < ((s.size : Nat) : Int) := by omega
    go_enter Tryd.func68, Tryd.ntmps68
    go_wp2_with fail
    refine (parse_any s w (by omega) HE.out).mono ?_
    intro e w1 h9
    obtain ⟨⟨n, hn, rfl⟩ | ⟨hn, v, t, p, rfl⟩, hb1⟩ := hg.out _ _ h9
    · have HN2 := Lib.hid hn
      have HB1 := Lib.hid hb1
      clear h9 hn hb1
      go_wp2_with fail
      go_quiet (fail)
      go_wp2_with fail
      go_ret2
      exact retDecR_yes HN2.out (HB1.out.trans (below_drewN _ _))
    · have HN2 := Lib.hid hn
      have HB1 := Lib.hid hb1
      clear h9 hn hb1
      go_wp2_with fail
      go_quiet (fail)
      go_wp2_with fail
      go_ret2
      exact retDecR_no HN2.out _ (HB1.out.trans (below_drewN _ _))
  · have hi1 : ¬ (1 : Int) < ((s.size : Nat) : Int) := by omega
    go_enter Tryd.func68, Tryd.ntmps68
    go_wp2_with fail
    refine (parse_any s w (by omega) HE.out).mono ?_
    intro e w1 h9
    obtain ⟨⟨n, hn, rfl⟩ | ⟨hn, v, t, p, rfl⟩, hb1⟩ := hg.out _ _ h9
    · have HN2 := Lib.hid hn
      have HB1 := Lib.hid hb1
      clear h9 hn hb1
      go_wp2_with fail
      go_quiet (fail)
      go_wp2_with fail
      go_ret2
      exact retDecR_yes HN2.out (HB1.out.trans (below_drewN _ _))
    · have HN2 := Lib.hid hn
      have HB1 := Lib.hid hb1
      clear h9 hn hb1
      go_wp2_with fail
      go_quiet (fail)
      go_wp2_with fail
      go_ret2
      exact retDecR_no HN2.out _ (HB1.out.trans (below_drewN _ _))

end Go.Proofs.YtkmfgchbfchdbaaDoor
