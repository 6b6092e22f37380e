import Derived.Test.YteggjpfaleeajaaDoorUIsSess
namespace Go.Proofs.YteggjpfaleeajaaDoor
open Go.RowKit

/-- the first place from k on that holds 1 -/
def nextFrom (xs : List Int) : Nat → List Int → Int × Int
  | _, [] => (0, 4)
  | k, x :: r => if x == 1 then ((k : Int), 0) else nextFrom xs (k + 1) r
def nextOf (p : ByteArray) (x1 x2 x3 x4 : Int) (xs : List Int) : Int × Int := if isSessB p x1 x2 x3 x4 xs then nextFrom xs 0 xs else (0, 1)

theorem next_step {xs : List Int} {k : Nat} {x : Int} (hx : xs[k]? = some x) (h : (x == 1) = false) (hn : nextFrom xs 0 xs = nextFrom xs k (xs.drop k)) : nextFrom xs 0 xs = nextFrom xs (k + 1) (xs.drop (k + 1)) := by
  have hk := (List.getElem?_eq_some_iff.1 hx)
  rw [hn, List.drop_eq_getElem_cons hk.1, nextFrom, hk.2, h]
  rfl
theorem next_hit {xs : List Int} {k : Nat} {x : Int} (hx : xs[k]? = some x) (h : (x == 1) = true) (hn : nextFrom xs 0 xs = nextFrom xs k (xs.drop k)) : nextFrom xs 0 xs = ((k : Int), 0) := by
  have hk := (List.getElem?_eq_some_iff.1 hx)
  rw [hn, List.drop_eq_getElem_cons hk.1, nextFrom, hk.2, h]
  rfl
theorem next_end {xs : List Int} {k : Nat} (hk : xs.length ≤ k) (hn : nextFrom xs 0 xs = nextFrom xs k (xs.drop k)) : nextFrom xs 0 xs = (0, 4) := by
  rw [hn, List.drop_of_length_le hk]; rfl

theorem ret_two {a b : Int} {r : Int × Int} (h : r = (a, b)) : Ending.returned (.tuple #[.int .i64 a, .int .i64 b]) = .returned (.tuple #[.int .i64 r.1, .int .i64 r.2]) := by rw [h]

set_option maxHeartbeats 1000000 in
theorem nextToPrint_any (p : ByteArray) (x1 x2 x3 x4 : Int) (a : Option Addr) (xs : List Int) (c : Nat) (w : World) (hx : IntsAt w a xs) (hp : p.size ≤ maxLen) (lx : xs.length ≤ maxLen) (ht : Tab w) :
    Calls Tryd.prog 23 #[.agg #[.string p, .int .i64 x1, .int .i64 x2, .int .i64 x3, .int .i64 x4, .slice a xs.length c]] w fun e w' => e = .returned (.tuple #[.int .i64 (nextOf p x1 x2 x3 x4 xs).1, .int .i64 (nextOf p x1 x2 x3 x4 xs).2]) ∧ Below w.heap.size w w' := by
  have HX := Lib.hid hx
  have HT := Lib.hid ht
  have lx' := lx
  clear hx ht
  unfold maxLen at lx'
  rcases Bool.eq_false_or_eq_true (isSessB p x1 x2 x3 x4 xs) with h1 | h1
  · have H1 := Lib.hid h1
    clear h1
    go_enter Tryd.func23, Tryd.ntmps23
    go_wp2_with fail
    refine (isSession_val H1.out (HX.out.below (ba1 _ _)) hp lx (HT.out.alloc _)).mono ?_
    rintro e w1 ⟨rfl, hb1⟩
    obtain ⟨hc, _⟩ := bcell hb1
    have HB1 := Lib.hid (bt1 hb1)
    clear hb1
    go_wp2_with fail
    have HX1 := Lib.hid (HX.out.below HB1.out)
    go_loop [4, 5, 12] (fun _ _ i => ∃ k : Nat, k ≤ xs.length ∧ i = .int .i64 k ∧ nextFrom xs 0 xs = nextFrom xs k (xs.drop k)) (fun _ _ i => xs.length - (intOf i).toNat)
    case atStart => exact ⟨0, Nat.zero_le _, rfl, rfl⟩
    case round =>
      obtain ⟨k, hk, rfl, hall⟩ := hrel
      have HA := Lib.hid hall
      clear hall
      by_cases hlt : k < xs.length
      · obtain ⟨b1, o1, x, rfl, hxk, hb1, hc1⟩ := HX1.out.at hlt
        have HK := Lib.hid hxk
        clear hxk
        rcases Bool.eq_false_or_eq_true (x == 1) with h3 | h3
        · go_wp2_with fail
          go_ret2
          exact ⟨ret_two (by rw [nextOf, H1.out]; exact next_hit HK.out h3 HA.out), HB1.out⟩
        · go_wp2_with fail
          go_round
          case rel => exact ⟨k + 1, by omega, by go_num, next_step HK.out h3 HA.out⟩
          case measure => simp [intOf]; omega
      · go_wp2_with fail
        go_ret2
        exact ⟨ret_two (by rw [nextOf, H1.out]; exact next_end (by omega) HA.out), HB1.out⟩
  · have H1 := Lib.hid h1
    clear h1
    go_enter Tryd.func23, Tryd.ntmps23
    go_wp2_with fail
    refine (isSession_val H1.out (HX.out.below (ba1 _ _)) hp lx (HT.out.alloc _)).mono ?_
    rintro e w1 ⟨rfl, hb1⟩
    obtain ⟨hc, _⟩ := bcell hb1
    have HB1 := Lib.hid (bt1 hb1)
    clear hb1
    go_wp2_with fail
    go_ret2
    exact ⟨ret_two (by rw [nextOf, H1.out]; rfl), HB1.out⟩

set_option maxHeartbeats 1000000 in
theorem specNextToPrint_any (p : ByteArray) (x1 x2 x3 x4 : Int) (a : Option Addr) (xs : List Int) (c : Nat) (w : World) (hx : IntsAt w a xs) (hp : p.size ≤ maxLen) (lx : xs.length ≤ maxLen) :
    Calls Tryd.prog 22 #[.agg #[.string p, .int .i64 x1, .int .i64 x2, .int .i64 x3, .int .i64 x4, .slice a xs.length c]] w fun e w' => e = .returned (.tuple #[.int .i64 (nextOf p x1 x2 x3 x4 xs).1, .int .i64 (nextOf p x1 x2 x3 x4 xs).2]) ∧ Below w.heap.size w w' := by
  have HX := Lib.hid hx
  have lx' := lx
  clear hx
  unfold maxLen at lx'
  rcases Bool.eq_false_or_eq_true (isSessB p x1 x2 x3 x4 xs) with h1 | h1
  · have H1 := Lib.hid h1
    clear h1
    go_enter Tryd.func22, Tryd.ntmps22
    go_wp2_with fail
    refine (specIsSession_val H1.out (HX.out.below (ba1 _ _)) hp lx).mono ?_
    rintro e w1 ⟨rfl, hb1⟩
    obtain ⟨hc, _⟩ := bcell hb1
    have HB1 := Lib.hid (bt1 hb1)
    clear hb1
    go_wp2_with fail
    have HX1 := Lib.hid (HX.out.below HB1.out)
    go_loop [4] (fun i => ∃ k : Nat, k ≤ xs.length ∧ i = .int .i64 k ∧ nextFrom xs 0 xs = nextFrom xs k (xs.drop k)) (fun i => xs.length - (intOf i).toNat)
    case atStart => exact ⟨0, Nat.zero_le _, rfl, rfl⟩
    case round =>
      obtain ⟨k, hk, rfl, hall⟩ := hrel
      have HA := Lib.hid hall
      clear hall
      by_cases hlt : k < xs.length
      · obtain ⟨b1, o1, x, rfl, hxk, hb1, hc1⟩ := HX1.out.at hlt
        have HK := Lib.hid hxk
        clear hxk
        rcases Bool.eq_false_or_eq_true (x == 1) with h3 | h3
        · go_wp2_with fail
          go_ret2
          exact ⟨ret_two (by rw [nextOf, H1.out]; exact next_hit HK.out h3 HA.out), HB1.out⟩
        · go_wp2_with fail
          go_round
          case rel => exact ⟨k + 1, by omega, by go_num, next_step HK.out h3 HA.out⟩
          case measure => simp [intOf]; omega
      · go_wp2_with fail
        go_ret2
        exact ⟨ret_two (by rw [nextOf, H1.out]; exact next_end (by omega) HA.out), HB1.out⟩
  · have H1 := Lib.hid h1
    clear h1
    go_enter Tryd.func22, Tryd.ntmps22
    go_wp2_with fail
    refine (specIsSession_val H1.out (HX.out.below (ba1 _ _)) hp lx).mono ?_
    rintro e w1 ⟨rfl, hb1⟩
    obtain ⟨hc, _⟩ := bcell hb1
    have HB1 := Lib.hid (bt1 hb1)
    clear hb1
    go_wp2_with fail
    go_ret2
    exact ⟨ret_two (by rw [nextOf, H1.out]; rfl), HB1.out⟩

end Go.Proofs.YteggjpfaleeajaaDoor
