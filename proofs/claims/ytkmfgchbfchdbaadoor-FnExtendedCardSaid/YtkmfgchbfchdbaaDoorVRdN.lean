import Derived.Test.YtkmfgchbfchdbaaDoorM0
namespace Go.Proofs.YtkmfgchbfchdbaaDoor
open Go.RowKit

theorem decB_eq {n : Int} {s : ByteArray} (h : Lib.itoa n = s.data.toList) : decB n = s := by
  apply ByteArray.ext; simp [decB, h]
theorem rnum_none {l : List UInt8} (h : ∀ n, Lib.parseIntB 64 l ≠ .ok n) : rnum l = none := by
  unfold rnum; split
  · rename_i n hn; exact absurd hn (h n)
  · rfl

set_option maxHeartbeats 1000000 in
theorem readNumber_any (s : ByteArray) (w : World) (hs : s.size ≤ 281474976710656) (hE : Env w) :
    Calls Tryd.prog 63 #[.string s] w fun e w' => ∃ v, e = .returned (.tuple #[.int .i64 v, .bool (rnum s.data.toList).isSome]) ∧ (∀ n, rnum s.data.toList = some n → v = n) ∧ Below w.heap.size w w' := by
  have HE := Lib.hid hE
  clear hE
  go_enter Tryd.func63, Tryd.ntmps63
  go_wp2_with fail
  refine (parse_any s w hs HE.out).mono ?_
  rintro e w1 ⟨⟨n, hp, rfl⟩ | ⟨hp, v, t, p, rfl⟩, hb1⟩
  · have HB1 := Lib.hid hb1
    have HP := Lib.hid hp
    obtain ⟨h0, h1⟩ := Lib.parseIntB_bounds hp
    have h0' : -9223372036854775808 ≤ n := by simpa using h0
    have h1' : n ≤ 9223372036854775807 := by have : n < 9223372036854775808 := by simpa using h1
                                             omega
    clear hb1 hp h0 h1
    go_wp2_with fail
    refine (formatInt_any n _ h0' h1' (HE.out.next HB1.out).tab).mono ?_
    rintro e w2 ⟨rfl, hb2⟩
    have HB2 := Lib.hid (bt0 HB1.out hb2 (Nat.le_refl _))
    clear hb2
    by_cases he : Lib.itoa n = s.data.toList
    · have E := Lib.hid (show rnum s.data.toList = some n by unfold rnum; rw [HP.out]; simp [he])
      have e2 : ((decB n).toList == s.toList) = true := by rw [decB_eq he]; simp
      clear he
      go_wp2_with fail
      go_ret2
      exact ⟨n, by rw [E.out]; rfl, (fun m hm => by rw [E.out] at hm; exact Option.some.inj hm), HB2.out⟩
    · have E := Lib.hid (show rnum s.data.toList = none by unfold rnum; rw [HP.out]; simp [he])
      have e2 : ((decB n).toList == s.toList) = false := by
        rw [Bool.eq_false_iff]; intro h
        rw [beq_iff_eq, ByteArray.toList_eq, ByteArray.toList_eq] at h
        exact he (by rw [← h]; simp [decB])
      clear he
      go_wp2_with fail
      go_ret2
      exact ⟨n, by rw [E.out]; rfl, (fun m hm => by rw [E.out] at hm; cases hm), HB2.out⟩
  · have HB1 := Lib.hid hb1
    have E := Lib.hid (rnum_none hp)
    clear hb1 hp
    go_wp2_with fail
    go_ret2
    exact ⟨v, by rw [E.out]; rfl, (fun m hm => by rw [E.out] at hm; cases hm), HB1.out⟩

end Go.Proofs.YtkmfgchbfchdbaaDoor
