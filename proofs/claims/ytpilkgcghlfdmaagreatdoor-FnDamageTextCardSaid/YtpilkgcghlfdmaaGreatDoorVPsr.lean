import Derived.Test.YtpilkgcghlfdmaaGreatDoorM2
import Derived.Test.YtpilkgcghlfdmaaGreatDoorM1
import Derived.Test.YtpilkgcghlfdmaaGreatDoorM0
namespace Go.Proofs.YtpilkgcghlfdmaaGreatDoor
open Go.RowKit

/-- the parser at block q holds the words ws -/
def Psr (w : World) (q : Nat) (ws : List ByteArray) : Prop := ∃ a c, w.heap[q]? = some (.cells #[.slice a ws.length c] 76 (0, 0)) ∧ ws.length ≤ c ∧ StrsAt w a ws ∧ (∀ ad, a = some ad → ad.block ≠ q)

theorem psr_step {w : World} {q b1 o1 o' c c' : Nat} {h : ByteArray} {t : List ByteArray} (hg : w.heap[q]? = some (.cells #[.slice (some ⟨b1, o1, none⟩) (t.length + 1) c] 76 (0, 0))) (hs : StrsAt w (some ⟨b1, o1, none⟩) (h :: t)) (hq : b1 ≠ q) (ho : o' = o1 + 1 ∨ t = []) (hc : t.length ≤ c') :
    Psr (w.setCell ⟨q, 0, none⟩ (.slice (some ⟨b1, o', none⟩) t.length c')) q t := by
  refine ⟨_, c', src_set hg 0 _, hc, ?_, fun ad e => by cases e; exact hq⟩
  intro i hi
  rcases ho with rfl | rfl
  · obtain ⟨b, o, e, hx⟩ := hs (i + 1) (by simpa using hi)
    simp only [Option.some.injEq, Addr.mk.injEq, and_true] at e
    obtain ⟨rfl, rfl⟩ := e
    refine ⟨b1, o1 + 1, rfl, ?_⟩
    rw [World.cell?_setCell_other (a := ⟨q, 0, none⟩) (b := ⟨b1, o1 + 1 + i, none⟩) w _ (fun e => hq (congrArg Addr.block e).symm), Nat.add_assoc, Nat.add_comm 1 i]
    simpa using hx
  · simp at hi

/-- what 'stopped' panics with -/
def stopCh (v : Value) : List PanicEntry := [{ v := .iface 125 v, recovered := false }]

set_option maxRecDepth 100000 in
set_option maxHeartbeats 1000000 in
theorem next_none (q : Nat) (w : World) (hp : Psr w q []) :
    Calls Tryz.prog 56 #[.pointer (some ⟨q, 0, none⟩)] w fun e w' => (∃ v, e = .panicked (stopCh v)) ∧ w' = w := by
  obtain ⟨a, c, hg, hlc, hs, hne⟩ := hp
  obtain ⟨hcc, hff⟩ := heap_cellR hg
  clear hs hne hg
  go_enter Tryz.func56, Tryz.ntmps56
  go_wp2_with fail
  exact ⟨rfl, ⟨_, rfl⟩, rfl⟩

set_option maxRecDepth 100000 in
set_option maxHeartbeats 1000000 in
theorem next_some (q : Nat) (h : ByteArray) (t : List ByteArray) (w : World) (hp : Psr w q (h :: t)) :
    Calls Tryz.prog 56 #[.pointer (some ⟨q, 0, none⟩)] w fun e w' => e = .returned (.string h) ∧ Psr w' q t ∧ w.grownBy w' (some q) := by
  obtain ⟨a, c, hg, hlc, hs, hne⟩ := hp
  obtain ⟨b1, o1, rfl, hc1⟩ := hs 0 (by simp)
  have hq := hne _ rfl
  have hb1 := lt_of_cell hc1
  obtain ⟨hcc, hff⟩ := heap_cellR hg
  have hl : (h :: t).length = t.length + 1 := rfl
  rw [hl] at hlc hcc
  have hg' := hg
  rw [hl] at hg'
  have HS := Lib.hid hs
  have HG := Lib.hid hg'
  have e1 : ((t.length + 1 : Nat) : Int) = (t.length : Int) + 1 := by omega
  clear hs hne hg hl hg'
  simp only [Nat.add_zero, List.getElem_cons_zero] at hc1
  go_enter Tryz.func56, Tryz.ntmps56
  go_wp2_with fail
  · go_ret
    have ht : t = [] := List.eq_nil_of_length_eq_zero (by omega)
    exact ⟨rfl, psr_step HG.out HS.out hq (.inr ht) (by omega), grownBy_set _ _ _ _⟩
  · go_ret
    exact ⟨rfl, psr_step HG.out HS.out hq (.inl rfl) (by omega), grownBy_set _ _ _ _⟩


theorem Psr.below {w w' : World} {q : Nat} {ws : List ByteArray} (h : Psr w q ws) (hb : Below w.heap.size w w') : Psr w' q ws := by
  obtain ⟨a, c, hg, hl, hs, hne⟩ := h
  exact ⟨a, c, blkK hb hg, hl, hs.below hb, hne⟩

/-- each word is short enough to be read -/
def ShortL (ws : List ByteArray) : Prop := ∀ b ∈ ws, b.size ≤ 281474976710656

set_option maxHeartbeats 1000000 in
theorem number_none (q : Nat) (w : World) (hp : Psr w q []) :
    Calls Tryz.prog 57 #[.pointer (some ⟨q, 0, none⟩)] w fun e w' => (∃ v, e = .panicked (stopCh v)) ∧ w' = w := by
  have HP := Lib.hid hp
  clear hp
  go_enter Tryz.func57, Tryz.ntmps57
  go_wp2_with fail
  refine (next_none q w HP.out).mono ?_
  rintro e w1 ⟨⟨v, rfl⟩, rfl⟩
  exact ⟨rfl, ⟨_, rfl⟩, rfl⟩

theorem gb_below {w w' : World} {q : Nat} (hb : Below w.heap.size w w') : w.grownBy w' (some q) := ⟨hb.os, hb.tape, hb.output, hb.size, fun k hk _ => hb.block k hk⟩
theorem below_gb {w w' : World} {q : Nat} (h : w.grownBy w' (some q)) (hq : q ≤ w.heap.size) : Below q w w' := below_of_grownBy h hq (fun k e => by cases e; exact Nat.le_refl _)
theorem Psr.lt {w : World} {q : Nat} {ws : List ByteArray} (h : Psr w q ws) : q < w.heap.size := by
  obtain ⟨a, c, hg, _⟩ := h
  exact blkLt hg

set_option maxHeartbeats 1000000 in
theorem number_bad (q : Nat) (h : ByteArray) (t : List ByteArray) (w : World) (hp : Psr w q (h :: t)) (hh : h.size ≤ 281474976710656) (hn : rnum h.data.toList = none) (hE2 : ∀ w', Below q w w' → Env w') :
    Calls Tryz.prog 57 #[.pointer (some ⟨q, 0, none⟩)] w fun e w' => (∃ v, e = .panicked (stopCh v)) ∧ w.grownBy w' (some q) := by
  have HP := Lib.hid hp
  have HN := Lib.hid hn
  have H2 := Lib.hid hE2
  clear hp hn hE2
  go_enter Tryz.func57, Tryz.ntmps57
  go_wp2_with fail
  refine (next_some q h t w HP.out).mono ?_
  rintro e w1 ⟨rfl, hp1, hb1⟩
  have HB1 := Lib.hid hb1
  clear hp1 hb1
  go_wp2_with fail
  refine (readNumber_any h _ hh (H2.out _ (below_gb HB1.out (Nat.le_of_lt HP.out.lt)))).mono ?_
  rintro e w2 ⟨v, rfl, hv, hb2⟩
  rw [HN.out]
  have HB2 := Lib.hid (grownBy_trans HB1.out (gb_below hb2))
  clear hv hb2
  have e0 : (none : Option Int).isSome = false := rfl
  go_wp2_with fail
  exact ⟨rfl, ⟨_, rfl⟩, HB2.out⟩

set_option maxHeartbeats 1000000 in
theorem number_ok (q : Nat) (h : ByteArray) (t : List ByteArray) (w : World) (n : Int) (hp : Psr w q (h :: t)) (hh : h.size ≤ 281474976710656) (hn : rnum h.data.toList = some n) (hE2 : ∀ w', Below q w w' → Env w') :
    Calls Tryz.prog 57 #[.pointer (some ⟨q, 0, none⟩)] w fun e w' => e = .returned (.int .i64 n) ∧ Psr w' q t ∧ w.grownBy w' (some q) := by
  have HP := Lib.hid hp
  have HN := Lib.hid hn
  have H2 := Lib.hid hE2
  clear hp hn hE2
  go_enter Tryz.func57, Tryz.ntmps57
  go_wp2_with fail
  refine (next_some q h t w HP.out).mono ?_
  rintro e w1 ⟨rfl, hp1, hb1⟩
  have HB1 := Lib.hid hb1
  have HP1 := Lib.hid hp1
  clear hp1 hb1
  go_wp2_with fail
  refine (readNumber_any h _ hh (H2.out _ (below_gb HB1.out (Nat.le_of_lt HP.out.lt)))).mono ?_
  rintro e w2 ⟨v, rfl, hv, hb2⟩
  obtain rfl := hv n HN.out
  rw [HN.out]
  have HB2 := Lib.hid (grownBy_trans HB1.out (gb_below hb2))
  have HP2 := Lib.hid (HP1.out.below hb2)
  clear hv hb2
  have e0 : (some v).isSome = true := rfl
  go_wp2_with fail
  go_ret
  exact ⟨rfl, HP2.out, HB2.out⟩

/-- number, whatever the words -/
theorem number_any (q : Nat) (ws : List ByteArray) (w : World) (hp : Psr w q ws) (hh : ShortL ws) (hE2 : ∀ w', Below q w w' → Env w') :
    Calls Tryz.prog 57 #[.pointer (some ⟨q, 0, none⟩)] w fun e w' => w.grownBy w' (some q) ∧
      (((ws = [] ∨ ∃ h t, ws = h :: t ∧ rnum h.data.toList = none) ∧ ∃ v, e = .panicked (stopCh v)) ∨
       (∃ n h t, ws = h :: t ∧ rnum h.data.toList = some n ∧ e = .returned (.int .i64 n) ∧ Psr w' q t)) := by
  cases ws with
  | nil => exact (number_none q w hp).mono fun e w' ⟨he, hw⟩ => ⟨by rw [hw]; exact World.grownBy.refl _ _, .inl ⟨.inl rfl, he⟩⟩
  | cons h t =>
    cases hn : rnum h.data.toList with
    | none => exact (number_bad q h t w hp (hh h (by simp)) hn hE2).mono fun e w' ⟨he, hb⟩ => ⟨hb, .inl ⟨.inr ⟨h, t, rfl, hn⟩, he⟩⟩
    | some n => exact (number_ok q h t w n hp (hh h (by simp)) hn hE2).mono fun e w' ⟨he, hp', hb⟩ => ⟨hb, .inr ⟨n, h, t, rfl, hn, he, hp'⟩⟩

end Go.Proofs.YtpilkgcghlfdmaaGreatDoor
