import Derived.Test.YtpilkgcghlfdmaaGreatDoorM1
import Derived.Test.YtpilkgcghlfdmaaGreatDoorM0
import Derived.Test.YtpilkgcghlfdmaaGreatDoorVIsDmg
import Derived.Test.YtpilkgcghlfdmaaGreatDoorM2
namespace Go.Proofs.YtpilkgcghlfdmaaGreatDoor
open Go.RowKit

/-- a damage lies at an address -/
def DmAt (w : World) (b o : Nat) (d : Dm) : Prop := w.cell? ⟨b, o, none⟩ = some (.int .i64 d.k) ∧ w.cell? ⟨b, o + 1, none⟩ = some (.int .i64 d.r) ∧ w.cell? ⟨b, o + 2, none⟩ = some (.int .i64 d.c) ∧ w.cell? ⟨b, o + 3, none⟩ = some (.int .i64 d.t) ∧ w.cell? ⟨b, o + 4, none⟩ = some (.int .i64 d.w) ∧ w.cell? ⟨b, o + 5, none⟩ = some (.int .i64 d.g)
/-- the damages ds lie at a -/
def DmsAt (w : World) (a : Option Addr) (ds : List Dm) : Prop := ∀ i (h : i < ds.length), ∃ b o, a = some ⟨b, o, none⟩ ∧ DmAt w b (o + i * 6) ds[i]
theorem DmAt.below {w w' : World} {b o : Nat} {d : Dm} (h : DmAt w b o d) (hb : Below w.heap.size w w') : DmAt w' b o d := by
  obtain ⟨h0, h1, h2, h3, h4, h5⟩ := h
  have hl := lt_of_cell h0
  have hc := (bcell hb).1
  exact ⟨(hc b _ hl).trans h0, (hc b _ hl).trans h1, (hc b _ hl).trans h2, (hc b _ hl).trans h3, (hc b _ hl).trans h4, (hc b _ hl).trans h5⟩
theorem DmsAt.below {w w' : World} {a : Option Addr} {ds : List Dm} (H : DmsAt w a ds) (hb : Below w.heap.size w w') : DmsAt w' a ds := fun i h => by
  obtain ⟨b, o, ha, hc⟩ := H i h
  exact ⟨b, o, ha, hc.below hb⟩
theorem DmsAt.at {w : World} {a : Option Addr} {ds : List Dm} (H : DmsAt w a ds) {i : Nat} (hi : i < ds.length) : ∃ b o d, a = some ⟨b, o, none⟩ ∧ ds[i]? = some d ∧ b < w.heap.size ∧ DmAt w b (o + i * 6) d := by
  obtain ⟨b, o, ha, hc⟩ := H i hi
  exact ⟨b, o, ds[i], ha, List.getElem?_eq_getElem hi, lt_of_cell hc.1, hc⟩

set_option maxRecDepth 100000 in
set_option maxHeartbeats 1000000 in
theorem allDamages_any (a : Option Addr) (ds : List Dm) (c : Nat) (w : World) (hx : DmsAt w a ds) (lx : ds.length ≤ 1099511627776) :
    Calls Tryz.prog 21 #[.slice a ds.length c] w fun e w' => e = .returned (.bool (ds.all Dm.ok)) ∧ Below w.heap.size w w' := by
  have HX := Lib.hid hx
  clear hx
  go_enter Tryz.func21, Tryz.ntmps21
  go_wp2_with fail
  go_loopw [4, 7] (fun _ i wr => ∃ k : Nat, k ≤ ds.length ∧ i = .int .i64 k ∧ (ds.take k).all Dm.ok = true ∧ Below w.heap.size w wr) (fun _ i _ => ds.length - (intOf i).toNat)
  case atStart => exact ⟨0, Nat.zero_le _, rfl, rfl, Below.refl _ _⟩
  case round =>
    obtain ⟨k, hk, rfl, hall, hb⟩ := hrel
    have HA := Lib.hid hall
    have HB := Lib.hid hb
    clear hall hb
    by_cases hlt : k < ds.length
    · obtain ⟨b1, o1, ⟨k0, r, c0, t, w0, g⟩, rfl, hdk, hb1, hc0, hc1, hc2, hc3, hc4, hc5⟩ := (HX.out.below HB.out).at hlt
      dsimp only at hc0 hc1 hc2 hc3 hc4 hc5
      have HK := Lib.hid hdk
      clear hdk
      rcases Bool.eq_false_or_eq_true (dmOk k0 r c0 t w0 g) with h3 | h3
      · have H3 := Lib.hid h3
        clear h3
        go_wp2_with fail
        refine (isDamage_val H3.out).mono ?_
        rintro e w1 ⟨rfl, hb2⟩
        have HB2 := Lib.hid (bt0 HB.out (bt1 hb2) (Nat.le_refl _))
        clear hb2 hc0 hc1 hc2 hc3 hc4 hc5
        go_wp2_with fail
        exact ⟨⟨k + 1, by omega, by go_num, all_step HK.out HA.out H3.out, HB2.out⟩, by simp [intOf]; omega⟩
      · have H3 := Lib.hid h3
        clear h3
        go_wp2_with fail
        refine (isDamage_val H3.out).mono ?_
        rintro e w1 ⟨rfl, hb2⟩
        have HB2 := Lib.hid (bt0 HB.out (bt1 hb2) (Nat.le_refl _))
        clear hb2 hc0 hc1 hc2 hc3 hc4 hc5
        go_wp2_with fail
        go_ret
        exact ⟨ret_bool (all_no HK.out H3.out).symm, HB2.out⟩
    · go_wp2_with fail
      go_ret
      exact ⟨ret_bool (all_end (by omega) HA.out).symm, HB.out⟩
theorem allDamages_val {a : Option Addr} {ds : List Dm} {c : Nat} {w : World} {b : Bool} (h : ds.all Dm.ok = b) (hx : DmsAt w a ds) (lx : ds.length ≤ 1099511627776) :
    Calls Tryz.prog 21 #[.slice a ds.length c] w fun e w' => e = .returned (.bool b) ∧ Below w.heap.size w w' := h ▸ allDamages_any a ds c w hx lx

/-- the code of a list of damages -/
def codeL (ds : List Dm) : Int := if 20 < ds.length then 3 else if ds.all Dm.ok = true then 0 else 2

set_option maxRecDepth 100000 in
set_option maxHeartbeats 1000000 in
theorem l27Code_any (a : Option Addr) (ds : List Dm) (c : Nat) (w : World) (hx : DmsAt w a ds) (lx : ds.length ≤ 1099511627776) :
    Calls Tryz.prog 25 #[.slice a ds.length c] w fun e w' => e = .returned (.int .i64 (codeL ds)) ∧ Below w.heap.size w w' := by
  have HX := Lib.hid hx
  clear hx
  by_cases h20 : 20 < ds.length
  · have e : codeL ds = 3 := by rw [codeL, if_pos h20]
    rw [e]
    clear e
    have hi : (20 : Int) < (ds.length : Int) := by omega
    go_enter Tryz.func25, Tryz.ntmps25
    go_wp2_with fail
    go_ret
    exact ⟨rfl, Below.refl _ _⟩
  · have HE := Lib.hid (show codeL ds = if ds.all Dm.ok = true then 0 else 2 by rw [codeL, if_neg h20])
    have hi : ¬ (20 : Int) < (ds.length : Int) := by omega
    go_enter Tryz.func25, Tryz.ntmps25
    go_wp2_with fail
    go_loopw [3] (fun i wr => ∃ k : Nat, k ≤ ds.length ∧ i = .int .i64 k ∧ (ds.take k).all Dm.ok = true ∧ Below w.heap.size w wr) (fun i _ => ds.length - (intOf i).toNat)
    case atStart => exact ⟨0, Nat.zero_le _, rfl, rfl, Below.refl _ _⟩
    case round =>
      obtain ⟨k, hk, rfl, hall, hb⟩ := hrel
      have HA := Lib.hid hall
      have HB := Lib.hid hb
      clear hall hb
      by_cases hlt : k < ds.length
      · obtain ⟨b1, o1, ⟨k0, r, c0, t, w0, g⟩, rfl, hdk, hb1, hc0, hc1, hc2, hc3, hc4, hc5⟩ := (HX.out.below HB.out).at hlt
        dsimp only at hc0 hc1 hc2 hc3 hc4 hc5
        have HK := Lib.hid hdk
        clear hdk
        rcases Bool.eq_false_or_eq_true (dmOk k0 r c0 t w0 g) with h3 | h3
        · have H3 := Lib.hid h3
          clear h3
          go_wp2_with fail
          refine (specIsDamage_val H3.out).mono ?_
          rintro e w1 ⟨rfl, hb2⟩
          have HB2 := Lib.hid (bt0 HB.out hb2 (Nat.le_refl _))
          clear hb2 hc0 hc1 hc2 hc3 hc4 hc5
          go_wp2_with fail
          exact ⟨⟨k + 1, by omega, by go_num, all_step HK.out HA.out H3.out, HB2.out⟩, by simp [intOf]; omega⟩
        · have H3 := Lib.hid h3
          clear h3
          go_wp2_with fail
          refine (specIsDamage_val H3.out).mono ?_
          rintro e w1 ⟨rfl, hb2⟩
          have HB2 := Lib.hid (bt0 HB.out hb2 (Nat.le_refl _))
          clear hb2 hc0 hc1 hc2 hc3 hc4 hc5
          go_wp2_with fail
          go_ret
          exact ⟨ret_int (by rw [HE.out, if_neg (by rw [all_no HK.out H3.out]; decide)]), HB2.out⟩
      · go_wp2_with fail
        go_ret
        exact ⟨ret_int (by rw [HE.out, if_pos (all_end (by omega) HA.out)]), HB.out⟩
theorem l27Code_val {a : Option Addr} {ds : List Dm} {c : Nat} {w : World} {z : Int} (h : codeL ds = z) (hx : DmsAt w a ds) (lx : ds.length ≤ 1099511627776) :
    Calls Tryz.prog 25 #[.slice a ds.length c] w fun e w' => e = .returned (.int .i64 z) ∧ Below w.heap.size w w' := h ▸ l27Code_any a ds c w hx lx

end Go.Proofs.YtpilkgcghlfdmaaGreatDoor
