import Derived.Test.YtpilkgcghlfdmaaGreatDoorVDtP
import Derived.Test.YtpilkgcghlfdmaaGreatDoorVDmT
import Derived.Test.YtpilkgcghlfdmaaGreatDoorVDrawDT
import Derived.Test.YtpilkgcghlfdmaaGreatDoorVLikeI
import Derived.BigQuiet
namespace Go.Proofs.YtpilkgcghlfdmaaGreatDoor
open Go.RowKit

set_option maxRecDepth 100000 in
set_option maxHeartbeats 2000000 in
theorem damageText_law (a : Option Addr) (n c : Nat) (w : World) (hx : BytesAt w w.heap.size a n) (hE : Env w) :
    Calls Tryz.prog 3 #[.slice a n c] w fun e w' => e = .returned (.bool true) ∧ Below w.heap.size w w' := by
  have HX := Lib.hid hx
  have HE := Lib.hid hE
  clear hx hE
  by_cases hbig : (4096 : Int) < n
  · go_enter Tryz.func3, Tryz.ntmps3
    go_wp2_with fail
    refine (big_any a n c _).mono ?_
    rintro e w' ⟨rfl, rfl⟩
    go_wp2_with fail
    go_ret
    exact ⟨rfl, Below.refl _ _⟩
  · go_enter Tryz.func3, Tryz.ntmps3
    go_wp2_with fail
    refine (big_any a n c _).mono ?_
    rintro e w0 ⟨rfl, rfl⟩
    go_wp2_with fail
    refine (drawDamagesText_any a n c w0 HX.out (by omega)).mono ?_
    rintro e w1 ⟨ds, aD, cD, rfl, hd21, hoD, hb1⟩
    have HD1 := Lib.hid hoD.dms
    have HB1 := Lib.hid hb1
    clear hoD hb1 hbig
    go_wp2_with fail
    refine (damagesText_any aD ds cD w1 HD1.out (by omega) (HE.out.next HB1.out).tab).mono ?_
    rintro e w2 ⟨rfl, hb2⟩
    have HD2 := Lib.hid (HD1.out.below hb2)
    have HB2 := Lib.hid (bt0 HB1.out hb2 (Nat.le_refl _))
    clear hb2
    go_wp2_with fail
    refine (spDamagesText_any aD ds cD w2 HD2.out (by omega)).mono ?_
    rintro e w3 ⟨rfl, hb3⟩
    have HD3 := Lib.hid (HD2.out.below hb3)
    have HB3 := Lib.hid (bt0 HB2.out hb3 (Nat.le_refl _))
    clear hb3
    obtain ⟨t, ht⟩ : ∃ t, dtB ds = t := ⟨_, rfl⟩
    have HT := Lib.hid ht
    rw [ht]
    clear ht
    have e1 : (t.toList != t.toList) = false := by simp
    by_cases h0 : t.data.toList = []
    · have ht0 : t = ⟨#[]⟩ := by apply ByteArray.ext; apply Array.toList_inj.1; exact h0
      subst ht0
      clear h0
      go_wp2_with fail
      refine (readDamages_empty w3).mono ?_
      rintro e w4 ⟨hb4, aR, cR, rfl, -⟩
      have HB4 := Lib.hid (bt0 HB3.out hb4 (Nat.le_refl _))
      clear hb4
      go_wp2_with fail
      go_ret
      exact ⟨rfl, HB4.out⟩
    · have HR : Hid (rdS t = some ds ∧ ds.length ≤ 20) := Lib.hid (by
        have := rdS_text (ds := ds) (by rw [HT.out]; exact h0)
        rw [HT.out] at this
        exact this)
      have e2 : t.toList.isEmpty = false := by
        rw [ByteArray.toList_eq]
        cases h : t.data.toList with
        | nil => exact absurd h h0
        | cons x r => rfl
      have hts : Hid (t.size ≤ 1048576) := Lib.hid (by rw [← HT.out]; exact dtB_size ds)
      clear h0
      go_wp2_with fail
      refine (readDamages_any t w3 hts.out (HE.out.next HB3.out)).mono ?_
      rw [HR.out.1]
      rintro e w4 ⟨hb4, aR, cR, rfl, hoR⟩
      have HD4 := Lib.hid (HD3.out.below hb4)
      have HR4 := Lib.hid hoR.dms
      have HB4 := Lib.hid (bt0 HB3.out hb4 (Nat.le_refl _))
      clear hb4 hoR
      go_wp2_with fail
      go_loopw [7] (fun i wr => ∃ k nn : Nat, k ≤ ds.length ∧ i = .int .i64 k ∧ wr = w4.drewN nn) (fun i _ => ds.length - (intOf i).toNat)
      case atStart => exact ⟨0, 0, Nat.zero_le _, rfl, rfl⟩
      case round =>
        obtain ⟨k, nn, hk, rfl, rfl⟩ := hrel
        by_cases hlt : k < ds.length
        · obtain ⟨b1, o1, ⟨dk, dr, dc, dt, dw, dg⟩, rfl, hdk, hb1, hc0, hc1, hc2, hc3, hc4, hc5⟩ := HD4.out.at hlt
          obtain ⟨b2, o2, d2, rfl, hdk2, hb2, hf0, hf1, hf2, hf3, hf4, hf5⟩ := HR4.out.at hlt
          rw [hdk] at hdk2
          obtain rfl := Option.some.inj hdk2
          dsimp only at hc0 hc1 hc2 hc3 hc4 hc5 hf0 hf1 hf2 hf3 hf4 hf5
          have hki : (k : Int) < (ds.length : Int) := by omega
          clear hdk hdk2
          go_wp2_with fail
          go_quiet (fail)
          go_wp2_with fail
          exact ⟨⟨k + 1, _, by omega, by go_num, rfl⟩, by simp [intOf]; omega⟩
        · have hki : ¬ (k : Int) < (ds.length : Int) := by omega
          go_wp2_with fail
          go_ret
          exact ⟨rfl, HB4.out.trans ⟨rfl, rfl, rfl, Nat.le_refl _, fun _ _ => rfl⟩⟩

end Go.Proofs.YtpilkgcghlfdmaaGreatDoor
