import Derived.Test.YteggjpfaleeajaaDoorUIsSess
namespace Go.Proofs.YteggjpfaleeajaaDoor
open Go.RowKit

/-- one more at place s -/
def bump (zs : List Int) (s : Int) : List Int := zs.set s.toNat (zs.getD s.toNat 0 + 1)
def countsOf (xs : List Int) : List Int := xs.foldl bump [0, 0, 0, 0, 0]

theorem bump_len (zs : List Int) (s : Int) : (bump zs s).length = zs.length := by simp [bump]
theorem counts_len (xs : List Int) : (countsOf xs).length = 5 := by
  have h : ∀ (l : List Int) (zs : List Int), (l.foldl bump zs).length = zs.length := by
    intro l
    induction l with
    | nil => intro zs; rfl
    | cons x r ih => intro zs; rw [List.foldl_cons, ih, bump_len]
  exact h xs _
theorem counts_step {xs : List Int} {k : Nat} {x : Int} (h : xs[k]? = some x) : countsOf (xs.take (k + 1)) = bump (countsOf (xs.take k)) x := by
  rw [countsOf, take_snoc' h, List.foldl_append]; rfl
theorem getD_set' {zs : List Int} {j i : Nat} {v : Int} : (zs.set j v).getD i 0 = if j = i ∧ j < zs.length then v else zs.getD i 0 := by
  simp only [List.getD_eq_getElem?_getD, List.getElem?_set]
  by_cases h : j = i
  · subst h
    by_cases h2 : j < zs.length <;> simp [h2]
  · simp [h]
theorem counts_bd : ∀ (xs : List Int) (i : Nat), 0 ≤ (countsOf xs).getD i 0 ∧ (countsOf xs).getD i 0 ≤ xs.length := by
  have h : ∀ (l : List Int) (zs : List Int) (n : Nat), (∀ i, 0 ≤ zs.getD i 0 ∧ zs.getD i 0 ≤ n) → ∀ i, 0 ≤ (l.foldl bump zs).getD i 0 ∧ (l.foldl bump zs).getD i 0 ≤ ((n + l.length : Nat) : Int) := by
    intro l
    induction l with
    | nil => intro zs n hz i; simpa using hz i
    | cons x r ih =>
      intro zs n hz i
      have := ih (bump zs x) (n + 1) (fun i => by
        unfold bump
        rw [getD_set']
        have h1 := hz i
        have h2 := hz x.toNat
        split <;> omega) i
      rw [List.foldl_cons, List.length_cons]
      omega
  intro xs i
  have := h xs [0, 0, 0, 0, 0] 0 (by
    intro i
    match i with
    | 0 | 1 | 2 | 3 | 4 => simp
    | n + 5 => simp) i
  simpa [countsOf] using this

/-- a slice of the call's own and a code are handed back -/
def RetInts (w : World) (zs : List Int) (code : Int) (e : Ending) (w' : World) : Prop :=
  ∃ a c, e = .returned (.tuple #[.slice a zs.length c, .int .i64 code]) ∧ OwnI w' w.heap.size (.slice a zs.length c) zs ∧ Below w.heap.size w w'

theorem RetInts.none {w w' : World} {code : Int} (hb : Below w.heap.size w w') : RetInts w [] code (.returned (.tuple #[.slice none 0 0, .int .i64 code])) w' :=
  ⟨Option.none, 0, rfl, World.ownsRow_nil _ _ _ _, hb⟩

def scVal (p : ByteArray) (x1 x2 x3 x4 : Int) (xs : List Int) : List Int := if isSessB p x1 x2 x3 x4 xs then countsOf xs else []
def scCode (p : ByteArray) (x1 x2 x3 x4 : Int) (xs : List Int) : Int := if isSessB p x1 x2 x3 x4 xs then 0 else 1

theorem sess_states {p : ByteArray} {x1 x2 x3 x4 : Int} {xs : List Int} (h : isSessB p x1 x2 x3 x4 xs = true) {k : Nat} {x : Int} (hx : xs[k]? = some x) : 0 ≤ x ∧ x ≤ 4 := by
  simp only [isSessB, Bool.and_eq_true] at h
  exact inB_iff.1 (List.all_eq_true.1 h.2 x (List.mem_of_getElem? hx))

/-- the state of the loop that counts -/
def Counting (w0 w : World) (g : Nat) (xs : List Int) (k : Nat) : Prop :=
  OwnI w w0.heap.size (.slice (some ⟨g, 0, none⟩) 5 5) (countsOf (xs.take k)) ∧ Below w0.heap.size w0 w

theorem Counting.cell {w0 w : World} {g : Nat} {xs : List Int} {k : Nat} (h : Counting w0 w g xs k) (j : Nat) (hj : j ≤ 4) :
    w.cell? ⟨g, j, none⟩ = some (.int .i64 ((countsOf (xs.take k)).getD j 0)) ∧ w.frozen? ⟨g, j, none⟩ = false := by
  have hl := counts_len (xs.take k)
  obtain ⟨z, h1, h2, h3⟩ := h.1.cellAt hl.symm (k := j) (by omega)
  refine ⟨?_, h3⟩
  rw [h2, List.getD_eq_getElem?_getD, h1]; rfl
theorem Counting.step {w0 w : World} {g : Nat} {xs : List Int} {k : Nat} (h : Counting w0 w g xs k) (hg : w0.heap.size ≤ g) {j : Nat} (hx : xs[k]? = some (j : Int)) :
    Counting w0 (w.setCell ⟨g, j, none⟩ (.int .i64 ((countsOf (xs.take k)).getD j 0 + 1))) g xs (k + 1) := by
  refine ⟨?_, h.2.setCell hg _⟩
  have := (h.1.stored (counts_len _).symm j ((countsOf (xs.take k)).getD j 0 + 1)).1
  rw [counts_step hx]
  unfold bump
  rw [Int.toNat_natCast]
  exact this

set_option maxHeartbeats 1000000 in
theorem stateCounts_any (p : ByteArray) (x1 x2 x3 x4 : Int) (a : Option Addr) (xs : List Int) (c : Nat) (w : World) (hx : IntsAt w a xs) (hp : p.size ≤ maxLen) (lx : xs.length ≤ 1099511627776) (ht : Tab w) :
    Calls Tryd.prog 25 #[.agg #[.string p, .int .i64 x1, .int .i64 x2, .int .i64 x3, .int .i64 x4, .slice a xs.length c]] w (RetInts w (scVal p x1 x2 x3 x4 xs) (scCode p x1 x2 x3 x4 xs)) := by
  have HX := Lib.hid hx
  have HT := Lib.hid ht
  have lx' : xs.length ≤ maxLen := by unfold maxLen; omega
  have HL := Lib.hid lx'
  clear hx ht lx'
  rcases Bool.eq_false_or_eq_true (isSessB p x1 x2 x3 x4 xs) with h1 | h1
  · have H1 := Lib.hid h1
    have E1 : Hid (scVal p x1 x2 x3 x4 xs = countsOf xs) := if_pos h1
    have E2 : Hid (scCode p x1 x2 x3 x4 xs = 0) := if_pos h1
    clear h1
    rw [E1.out, E2.out]
    obtain ⟨i0, hi, hz0, hz1, hz2⟩ := info_parts infoI
    go_enter Tryd.func25, Tryd.ntmps25
    go_wp2_with fail
    refine (isSession_val H1.out (HX.out.below (ba1 _ _)) hp HL.out (HT.out.alloc _)).mono ?_
    rintro e w1 ⟨rfl, hb1⟩
    obtain ⟨hc, _⟩ := bcell hb1
    have HB1 := Lib.hid (bt1 hb1)
    have hz : w.heap.size < w1.heap.size := by have := hb1.size; simp at this; omega
    clear hb1
    go_wp2_with (at_make; refine wpList_make_full _ rfl _ _ 26 rfl w.heap.size 2 i0 (.int .i64 0) 1 Tryd.underlying26 hi hz0 hz1 _ _ _ _ 5 rfl rfl rfl rfl ?c1 ?c2 ?c3 ?_)
    case c1 => rw [hz2]; omega
    case c2 => unfold maxLen; omega
    case c3 => omega
    intro w2 hown hg
    have hb2 : Below w1.heap.size w1 w2 := below_of_grownBy hg (Nat.le_refl _) (fun k h => by cases h)
    obtain ⟨hc2, _⟩ := bcell hb2
    have HC0 : Hid (Counting w w2 w1.heap.size xs 0) := ⟨OwnI.of_made hown, bt0 HB1.out hb2 (Nat.le_refl _)⟩
    clear hown hg hb2 hi hz0 hz1 hz2
    go_wp2_with fail
    have HX1 := Lib.hid (HX.out.below HB1.out)
    go_loopw [6, 14] (fun _ i wr => ∃ k : Nat, k ≤ xs.length ∧ i = .int .i64 k ∧ Counting w wr w1.heap.size xs k) (fun _ i _ => xs.length - (intOf i).toNat)
    case atStart => exact ⟨0, Nat.zero_le _, rfl, HC0.out⟩
    case round =>
      obtain ⟨k, hk, rfl, hcnt⟩ := hrel
      have HC := Lib.hid hcnt
      clear hcnt
      by_cases hlt : k < xs.length
      · obtain ⟨b1, o1, x, rfl, hxk, hb1, hc1⟩ := HX.out.at hlt
        obtain ⟨r0, r4⟩ := sess_states H1.out hxk
        obtain ⟨j, rfl⟩ := Int.eq_ofNat_of_zero_le r0
        have hj : j ≤ 4 := by omega
        have hcr := (HC.out.2.cell (p := ⟨b1, o1 + k, none⟩) hb1).trans hc1
        obtain ⟨hv, hf⟩ := HC.out.cell j hj
        obtain ⟨q1, q2⟩ := counts_bd (xs.take k) j
        have q3 : ((xs.take k).length : Int) ≤ k := by have := List.length_take_le k xs; omega
        obtain ⟨z, hzz⟩ : ∃ z, (countsOf (xs.take k)).getD j 0 = z := ⟨_, rfl⟩
        rw [hzz] at hv q1 q2
        have HK := Lib.hid hxk
        have HZ := Lib.hid hzz
        have q4 : z ≤ 1099511627776 := by omega
        clear hxk hzz hc1 q2 q3
        go_wp2_with fail
        go_roundw
        case rel => exact ⟨k + 1, by omega, by go_num, by rw [← HZ.out]; exact HC.out.step (by omega) HK.out⟩
        case measure => simp [intOf]; omega
      · obtain rfl : k = xs.length := by omega
        go_wp2_with fail
        go_ret2
        have e5 := counts_len xs
        have e6 := HC.out.1
        rw [List.take_length] at e6
        exact ⟨some ⟨w1.heap.size, 0, none⟩, 5, by rw [e5]; rfl, by rw [e5]; exact e6, HC.out.2⟩
  · have H1 := Lib.hid h1
    have E1 : Hid (scVal p x1 x2 x3 x4 xs = []) := by show scVal _ _ _ _ _ _ = _; rw [scVal, h1]; rfl
    have E2 : Hid (scCode p x1 x2 x3 x4 xs = 1) := by show scCode _ _ _ _ _ _ = _; rw [scCode, h1]; rfl
    clear h1
    rw [E1.out, E2.out]
    go_enter Tryd.func25, Tryd.ntmps25
    go_wp2_with fail
    refine (isSession_val H1.out (HX.out.below (ba1 _ _)) hp HL.out (HT.out.alloc _)).mono ?_
    rintro e w1 ⟨rfl, hb1⟩
    obtain ⟨hc, _⟩ := bcell hb1
    have HB1 := Lib.hid (bt1 hb1)
    clear hb1
    go_wp2_with fail
    go_ret2
    exact RetInts.none HB1.out

set_option maxHeartbeats 1000000 in
theorem specStateCounts_any (p : ByteArray) (x1 x2 x3 x4 : Int) (a : Option Addr) (xs : List Int) (c : Nat) (w : World) (hx : IntsAt w a xs) (hp : p.size ≤ maxLen) (lx : xs.length ≤ 1099511627776) :
    Calls Tryd.prog 24 #[.agg #[.string p, .int .i64 x1, .int .i64 x2, .int .i64 x3, .int .i64 x4, .slice a xs.length c]] w (RetInts w (scVal p x1 x2 x3 x4 xs) (scCode p x1 x2 x3 x4 xs)) := by
  have HX := Lib.hid hx
  have lx' : xs.length ≤ maxLen := by unfold maxLen; omega
  have HL := Lib.hid lx'
  clear hx lx'
  rcases Bool.eq_false_or_eq_true (isSessB p x1 x2 x3 x4 xs) with h1 | h1
  · have H1 := Lib.hid h1
    have E1 : Hid (scVal p x1 x2 x3 x4 xs = countsOf xs) := if_pos h1
    have E2 : Hid (scCode p x1 x2 x3 x4 xs = 0) := if_pos h1
    clear h1
    rw [E1.out, E2.out]
    go_enter Tryd.func24, Tryd.ntmps24
    go_wp2_with fail
    refine (specIsSession_val H1.out (HX.out.below (ba1 _ _)) hp HL.out).mono ?_
    rintro e w1 ⟨rfl, hb1⟩
    obtain ⟨hc, _⟩ := bcell hb1
    have HB1 := Lib.hid (bt1 hb1)
    have hz : w.heap.size < w1.heap.size := by have := hb1.size; simp at this; omega
    clear hb1
    have HC0 : Hid (Counting w1 (w1.alloc (.cells #[.int .i64 0, .int .i64 0, .int .i64 0, .int .i64 0, .int .i64 0] 2)) w1.heap.size xs 0) :=
      ⟨World.ownsRow_lit (base := w1.heap.size) (size := 1) w1 #[.int .i64 0, .int .i64 0, .int .i64 0, .int .i64 0, .int .i64 0] 5 (Nat.le_refl _) (by unfold maxLen; omega) rfl, ba1 _ _⟩
    have hbx : w1.cell? ⟨w.heap.size, 5, none⟩ = some (.slice a xs.length c) := by rw [hc _ _ (by simp)]; simp
    go_wp2_with fail
    have HX1 := Lib.hid (HX.out.below HB1.out)
    go_loopw [5] (fun i wr => ∃ k : Nat, k ≤ xs.length ∧ i = .int .i64 k ∧ Counting w1 wr w1.heap.size xs k) (fun i _ => xs.length - (intOf i).toNat)
    case atStart => exact ⟨0, Nat.zero_le _, rfl, HC0.out⟩
    case round =>
      obtain ⟨k, hk, rfl, hcnt⟩ := hrel
      have HC := Lib.hid hcnt
      have hbr := (HC.out.2.cell (p := ⟨w.heap.size, 5, none⟩) hz).trans hbx
      clear hcnt
      by_cases hlt : k < xs.length
      · obtain ⟨b1, o1, x, rfl, hxk, hb1, hc1⟩ := HX.out.at hlt
        obtain ⟨r0, r4⟩ := sess_states H1.out hxk
        obtain ⟨j, rfl⟩ := Int.eq_ofNat_of_zero_le r0
        have hj : j ≤ 4 := by omega
        have hcr := (HC.out.2.cell (p := ⟨b1, o1 + k, none⟩) (show b1 < _ by omega)).trans ((HB1.out.cell (p := ⟨b1, o1 + k, none⟩) hb1).trans hc1)
        obtain ⟨hv, hf⟩ := HC.out.cell j hj
        obtain ⟨q1, q2⟩ := counts_bd (xs.take k) j
        have q3 : ((xs.take k).length : Int) ≤ k := by have := List.length_take_le k xs; omega
        obtain ⟨z, hzz⟩ : ∃ z, (countsOf (xs.take k)).getD j 0 = z := ⟨_, rfl⟩
        rw [hzz] at hv q1 q2
        have HK := Lib.hid hxk
        have HZ := Lib.hid hzz
        have q4 : z ≤ 1099511627776 := by omega
        clear hxk hzz hc1 q2 q3
        go_wp2_with fail
        go_roundw
        case rel => exact ⟨k + 1, by omega, by go_num, by rw [← HZ.out]; exact HC.out.step (Nat.le_refl _) HK.out⟩
        case measure => simp [intOf]; omega
      · obtain rfl : k = xs.length := by omega
        go_wp2_with fail
        go_ret2
        have e5 := counts_len xs
        have e6 := HC.out.1
        rw [List.take_length] at e6
        exact ⟨some ⟨w1.heap.size, 0, none⟩, 5, by rw [e5]; rfl, by rw [e5]; exact e6.weak (by omega), bt0 HB1.out HC.out.2 (Nat.le_refl _)⟩
  · have H1 := Lib.hid h1
    have E1 : Hid (scVal p x1 x2 x3 x4 xs = []) := by show scVal _ _ _ _ _ _ = _; rw [scVal, h1]; rfl
    have E2 : Hid (scCode p x1 x2 x3 x4 xs = 1) := by show scCode _ _ _ _ _ _ = _; rw [scCode, h1]; rfl
    clear h1
    rw [E1.out, E2.out]
    go_enter Tryd.func24, Tryd.ntmps24
    go_wp2_with fail
    refine (specIsSession_val H1.out (HX.out.below (ba1 _ _)) hp HL.out).mono ?_
    rintro e w1 ⟨rfl, hb1⟩
    obtain ⟨hc, _⟩ := bcell hb1
    have HB1 := Lib.hid (bt1 hb1)
    clear hb1
    go_wp2_with fail
    go_ret2
    exact RetInts.none HB1.out

end Go.Proofs.YteggjpfaleeajaaDoor
