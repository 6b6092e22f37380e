import Derived.Test.YtpilkgcghlfdmaaGreatDoorVDrawDL2
namespace Go.Proofs.YtpilkgcghlfdmaaGreatDoor
open Go.RowKit

set_option maxHeartbeats 1000000 in
/-- DrawDamagesText: some damages -/
theorem drawDamagesText_any (a : Option Addr) (n c : Nat) (w : World) (hx : BytesAt w w.heap.size a n) (hn : n ≤ 4096) :
    Calls Tryz.prog 6 #[.slice a n c] w fun e w' => ∃ (ds : List Dm) (a' : Option Addr) (c' : Nat), e = .returned (.slice a' ds.length c') ∧ ds.length ≤ 21 ∧ OwnD w' w.heap.size (.slice a' ds.length c') ds ∧ Below w.heap.size w w' := by
  have HX := Lib.hid hx
  clear hx
  go_enter Tryz.func6, Tryz.ntmps6
  go_wp2_with fail
  refine (l01From_any a n c _ HX.out hn).mono ?_
  rintro e w1 ⟨b, rfl, hb, hs1, hb1⟩
  have HS1 := Lib.hid hs1
  have HB1 := Lib.hid hb1
  clear hb1 hs1
  go_wp2_with fail
  refine (l27DrawList_any b false w1 HS1.out).mono ?_
  rintro e w2 ⟨ds, a2, c2, rfl, hl, ho, hs2, hg2⟩
  have HB2 := Lib.hid (HB1.out.trans (below_of_grownBy hg2 HB1.out.size (fun k e => by have := Option.some.inj e; omega)))
  have HO := Lib.hid (ho.weak HB1.out.size)
  clear hs2 hg2 ho
  go_wp2_with fail
  go_ret
  exact ⟨ds, a2, c2, rfl, hl, HO.out, HB2.out⟩

end Go.Proofs.YtpilkgcghlfdmaaGreatDoor
