import Derived.Test.YtnijdfdcjjbneaaDoorUIdx
import Derived.Test.YtnijdfdcjjbneaaDoorUSer2
import Derived.Test.YtnijdfdcjjbneaaDoorUDrawSO
import Derived.Test.YtnijdfdcjjbneaaDoorUDice
import Derived.Test.YtnijdfdcjjbneaaDoorUChkD
import Derived.Test.YtnijdfdcjjbneaaDoorUIsSess
import Derived.Laws.IdiomStrings
import Derived.Test.YtnijdfdcjjbneaaDoorULikeI
namespace Go.Proofs.YtnijdfdcjjbneaaDoor
open Go.RowKit

/-- a serial that was made: its batch and index are sound, and it is found again -/
theorem so_law {p : ByteArray} {x1 x2 x3 x4 k : Int} (h : soC p x1 x2 x3 x4 k = 0) :
    isBatchB p x1 x2 x3 x4 = true ∧ 0 ≤ k ∧ k < x3 ∧ soS p x1 x2 x3 x4 k = serB p x1 x2 x4 k ∧ ioK p x1 x2 x3 x4 (serB p x1 x2 x4 k) = k ∧ ioC p x1 x2 x3 x4 (serB p x1 x2 x4 k) = 0 := by
  unfold soC at h
  split at h
  · rename_i hb
    split at h
    · rename_i hi
      have hi' := inB_iff.1 hi
      obtain ⟨m, rfl⟩ := Int.eq_ofNat_of_zero_le hi'.1
      have hx : ixR p x1 x2 x3 x4 (serB p x1 x2 x4 m) = some m := ixR_some (fun j hj e => by
        have := ser_inj hb (Int.natCast_nonneg j) (by omega) hi'.1 (by omega) e
        omega) (by omega) rfl
      refine ⟨hb, hi'.1, by omega, ?_, ?_, ?_⟩
      · unfold soS; rw [hb, hi]; rfl
      · unfold ioK; rw [if_pos hb, hx]; rfl
      · unfold ioC; rw [if_pos hb, hx]; rfl
    · cases h
  · cases h

/-- a string that is none of the batch's serials is not found -/
theorem io_none {p : ByteArray} {x1 x2 x3 x4 : Int} {s : ByteArray} (hb : isBatchB p x1 x2 x3 x4 = true) (h : ∀ j : Nat, serB p x1 x2 x4 j ≠ s) : ioC p x1 x2 x3 x4 s = 4 := by
  have hx : ixR p x1 x2 x3 x4 s = none := ixR_none (k := x3.toNat) (fun j _ => h j) (by omega)
  unfold ioC
  rw [if_pos hb, hx]; rfl

/-- while the dice are cast beside reads of the batch's box -/
def StDi (d g : Nat) (cs : Array Value) (w W : World) : Prop :=
  Dice W d ∧ (∀ i, W.cell? ⟨g, i, none⟩ = cs[i]?) ∧ g < W.heap.size ∧ Below w.heap.size w W
theorem di_same {d g : Nat} {w W : World} {cs : Array Value} {s : Sp KeepN} {v : Value} (h : StDi d g cs w W) (hs : s.holds v W) : RsR (StDi d g cs w) s W v W := ⟨h, Nat.le_refl _, hs⟩
theorem di_next {d g : Nat} {w W : World} {cs : Array Value} {n : Int} {hi : Int} (h : StDi d g cs w W) (hd : w.heap.size ≤ d) (hgd : g ≠ d) (hn : 1 ≤ n) (hn2 : n ≤ 1000) (h1 : n - 1 ≤ hi) :
    Calls Tryd.prog 14 #[.pointer (some ⟨d, 0, none⟩), .int .i64 n] W fun e W' => ∃ v, e = .returned v ∧ RsR (StDi d g cs w) (spN (NumB 0 hi)) W v W' :=
  (below_any d n W h.1 hn hn2).mono fun e W' ⟨r, he, r0, r1, hs, hg⟩ => ⟨_, he, ⟨hs, fun i => by
    rw [World.cell?_of_block (w := W) (a := ⟨g, i, none⟩) (hg.block g h.2.2.1 (fun e => hgd (Option.some.inj e)))]
    exact h.2.1 i, Nat.lt_of_lt_of_le h.2.2.1 hg.size, h.2.2.2.trans (below_of_grownBy hg h.2.2.2.size (fun k e => by have := Option.some.inj e; omega))⟩, hg.size, r, rfl, r0, by omega⟩

theorem dec_digit : ∀ (a : Nat), ∀ u ∈ Lib.decDigits a, 48 ≤ u.toNat ∧ u.toNat ≤ 57 := by
  intro a
  induction a using Nat.strongRecOn with
  | ind a ih =>
    intro u hu
    by_cases h : a < 10
    · rw [decDigits_small h, List.mem_singleton] at hu
      subst hu
      rw [digit_nat h]; omega
    · rw [decDigits_big h, List.mem_append, List.mem_singleton] at hu
      rcases hu with hu | rfl
      · exact ih _ (by omega) u hu
      · rw [digit_nat (by omega)]; omega
/-- behind its prefix a serial holds digits -/
theorem ser_digit {p : ByteArray} {x1 x2 x4 i : Int} (h0 : 0 ≤ x1 + i * x2) {n : Nat} {u : UInt8} (hn : p.size ≤ n) (hu : (serB p x1 x2 x4 i).data.toList[n]? = some u) : 48 ≤ u.toNat ∧ u.toNat ≤ 57 := by
  obtain ⟨m, hm⟩ := Int.eq_ofNat_of_zero_le h0
  have hc := chkB_bd (bodyB p x1 x2 x4 i)
  rw [serB_list, bodyB_list, List.append_assoc, List.getElem?_append_right (by simpa using hn)] at hu
  have hmem := List.mem_of_getElem? hu
  rw [hm, Lib.itoa_nonneg] at hmem
  simp only [List.mem_append, List.mem_replicate, List.mem_singleton] at hmem
  rcases hmem with (⟨_, rfl⟩ | hmem) | rfl
  · decide
  · exact dec_digit m u hmem
  · rw [digit_nat (by omega)]; omega
theorem ser_size {p : ByteArray} {x1 x2 x3 x4 k : Int} (hb : isBatchB p x1 x2 x3 x4 = true) (k0 : 0 ≤ k) (k1 : k < x3) : ((serB p x1 x2 x4 k).size : Int) = p.size + x4 + 1 := by
  obtain ⟨p1, p2, p3, p4, p5, p6, p7, p8, p9, p10, p11⟩ := batch_parts hb
  have h1 := bodyB_size (p := p) (ser_width p8 p2 p3 p5 p10 p11 k0 k1)
  have h2 := congrArg List.length (serB_list p x1 x2 x4 k)
  simp only [List.length_append, List.length_singleton] at h2
  simp only [Array.length_toList] at h2
  have e1 : (serB p x1 x2 x4 k).data.size = (serB p x1 x2 x4 k).size := rfl
  have e2 : (bodyB p x1 x2 x4 k).data.size = (bodyB p x1 x2 x4 k).size := rfl
  omega
/-- a serial's check digit is its last byte -/
theorem ser_cut {so p : ByteArray} {x1 x2 x4 k : Int} (h : so = serB p x1 x2 x4 k) (hs : so.size - 1 < so.size) :
    ((so[so.size - 1]'hs).toNat : Int) = 48 + chkB (so.extract 0 (so.size - 1)) := by
  have hl := congrArg (fun b : ByteArray => b.data.toList) h
  simp only [serB_list] at hl
  have hsz : so.size = (bodyB p x1 x2 x4 k).size + 1 := by
    have := congrArg List.length hl
    simpa using this
  have hn : so.size - 1 = (bodyB p x1 x2 x4 k).size := by omega
  have hlb : (bodyB p x1 x2 x4 k).data.toList.length = (bodyB p x1 x2 x4 k).size := by simp
  have hex : so.extract 0 (so.size - 1) = bodyB p x1 x2 x4 k := by
    apply ByteArray.ext
    apply Array.toList_inj.1
    rw [hn]
    simp only [ByteArray.data_extract, Array.toList_extract, List.extract_eq_take_drop, hl, List.drop_zero, Nat.sub_zero]
    rw [List.take_append_of_le_length (by omega), List.take_of_length_le (by omega)]
  rw [hex]
  have hg : so.data.toList[so.size - 1]? = some (UInt8.ofNat (48 + (chkB (bodyB p x1 x2 x4 k)).toNat)) := by
    rw [hl, hn, List.getElem?_append_right (by omega), hlb, Nat.sub_self]
    rfl
  have hg2 : so[so.size - 1] = UInt8.ofNat (48 + (chkB (bodyB p x1 x2 x4 k)).toNat) := by
    obtain ⟨h1, h2⟩ := List.getElem?_eq_some_iff.1 hg
    rw [← h2]
    rfl
  have hb := chkB_bd (bodyB p x1 x2 x4 k)
  rw [hg2, digit_nat (by omega)]
  omega
/-- a serial with its digit at a place turned to another -/
def turnB (s : ByteArray) (n : Nat) (v : UInt8) : ByteArray := ⟨(s.data.toList.set n v).toArray⟩
theorem turnB_none {p : ByteArray} {x1 x2 x3 x4 k r : Int} {so : ByteArray} (hb : isBatchB p x1 x2 x3 x4 = true) (hso : so = serB p x1 x2 x4 k) {n : Nat} {u v : UInt8} (hu : so.data.toList[n]? = some u) (z0 : 48 ≤ u.toNat) (z9 : u.toNat ≤ 57) (r1 : 1 ≤ r) (r9 : r ≤ 9)
    (hv : (v.toNat : Int) = 48 + (u.toNat - 48 + r) % 10) : ioC p x1 x2 x3 x4 (turnB so n v) = 4 := by
  subst hso
  refine io_none hb (fun j e => ?_)
  have e2 := congrArg (fun b : ByteArray => b.data.toList) e
  simp only [turnB] at e2
  refine ser_changed hb hu (by omega) (by omega) (v := v) (by omega) (by omega) (fun e3 => ?_) e2
  have := congrArg UInt8.toNat e3
  omega
/-- what the text's row holds behind the store -/
theorem turned_cells {W : World} {t A : Nat} {R : Array Value} {fr : Nat × Nat} {so : ByteArray} {v : UInt8} (h : W.heap[t]? = some (.cells R 5 fr)) (hR : ∀ (j : Nat) (u : UInt8), so.data.toList[j]? = some u → R[j]? = some (Value.int .u8 (u.toNat : Int))) (hA : A < so.size) :
    ∀ j (hj : j < (so.data.toList.set A v).length), (W.setCell ⟨t, A, none⟩ (.int .u8 (v.toNat : Int))).cell? ((⟨t, 0, none⟩ : Addr).add j) = some (.int .u8 (((so.data.toList.set A v)[j]).toNat : Int)) := by
  intro j hj
  have hl : so.data.toList.length = so.size := by simp
  have hj' : j < so.data.toList.length := by simpa using hj
  have h2 := src_set h A (.int .u8 (v.toNat : Int))
  have e : ((⟨t, 0, none⟩ : Addr).add j) = ⟨t, j, none⟩ := by
    have : ((⟨t, 0, none⟩ : Addr).add j) = ⟨t, 0 + j, none⟩ := by first | exact Addr.add_mid | exact Addr.add_lit _ _ _ | (unfold Addr.add; split <;> simp_all)
    rw [this, Nat.zero_add]
  rw [e]
  simp only [World.cell?, h2]
  have hRj := hR j _ (List.getElem?_eq_getElem hj')
  have hRA : A < R.size := (Array.getElem?_eq_some_iff.1 (hR A _ (List.getElem?_eq_getElem (by omega)))).1
  rw [Array.getElem?_setIfInBounds, List.getElem_set]
  by_cases e2 : A = j
  · subst e2
    simp [hRA]
  · simp only [e2, if_false]
    exact hRj

/-- a byte between two bounds -/
def U8B (P : Int → Prop) (v : Value) : Prop := ∃ r : Int, v = .int .u8 r ∧ P r
/-- .. and beside the text's row -/
def StDt (d g t : Nat) (cs R : Array Value) (fr : Nat × Nat) (w W : World) : Prop :=
  StDi d g cs w W ∧ W.heap[t]? = some (.cells R 5 fr) ∧ w.heap.size ≤ t ∧ t ≠ d
theorem StDt.drew {d g t : Nat} {w W : World} {cs R : Array Value} {fr : Nat × Nat} (h : StDt d g t cs R fr w W) : StDt d g t cs R fr w W.drew :=
  ⟨⟨h.1.1.kept (row := none) (w' := World.drew W) (grownBy_drewN W 1 none) (by simp), h.1.2.1, h.1.2.2.1, h.1.2.2.2.drew⟩, h.2.1, h.2.2⟩
theorem dt_same {d g t : Nat} {w W : World} {cs R : Array Value} {fr : Nat × Nat} {s : Sp KeepN} {v : Value} (h : StDt d g t cs R fr w W) (hs : s.holds v W) : RsR (StDt d g t cs R fr w) s W v W := ⟨h, Nat.le_refl _, hs⟩
theorem dt_next {d g t : Nat} {w W : World} {cs R : Array Value} {fr : Nat × Nat} {n : Int} {hi : Int} (h : StDt d g t cs R fr w W) (hd : w.heap.size ≤ d) (hgd : g ≠ d) (hn : 1 ≤ n) (hn2 : n ≤ 1000) (h1 : n - 1 ≤ hi) :
    Calls Tryd.prog 14 #[.pointer (some ⟨d, 0, none⟩), .int .i64 n] W fun e W' => ∃ v, e = .returned v ∧ RsR (StDt d g t cs R fr w) (spN (NumB 0 hi)) W v W' :=
  (below_any d n W h.1.1 hn hn2).mono fun e W' ⟨r, he, r0, r1, hs, hg⟩ => ⟨_, he, ⟨⟨hs, fun i => by
    rw [World.cell?_of_block (w := W) (a := ⟨g, i, none⟩) (hg.block g h.1.2.2.1 (fun e => hgd (Option.some.inj e)))]
    exact h.1.2.1 i, Nat.lt_of_lt_of_le h.1.2.2.1 hg.size, h.1.2.2.2.trans (below_of_grownBy hg h.1.2.2.2.size (fun k e => by have := Option.some.inj e; omega))⟩,
    (hg.block t (Array.getElem?_eq_some_iff.1 h.2.1).1 (fun e => h.2.2.2 (Option.some.inj e))).trans h.2.1, h.2.2⟩, hg.size, r, rfl, r0, by omega⟩

set_option maxRecDepth 100000 in
set_option maxHeartbeats 1000000 in
theorem serials_any (a : Option Addr) (n c : Nat) (w : World) (hx : BytesAt w w.heap.size a n) (ht : Tab w) :
    Calls Tryd.prog 3 #[.slice a n c] w fun e w' => e = .returned (.bool true) ∧ Below w.heap.size w w' := by
  have HX := Lib.hid hx
  have HT := Lib.hid ht
  clear hx ht
  by_cases hbig : (4096 : Int) < n
  · go_enter Tryd.func3, Tryd.ntmps3
    go_wp2_with fail
    refine (big_any a n c _).mono ?_
    rintro e w' ⟨rfl, rfl⟩
    go_wp2_with fail
    go_ret
    exact ⟨rfl, Below.refl _ _⟩
  · go_enter Tryd.func3, Tryd.ntmps3
    go_wp2_with fail
    refine (big_any a n c _).mono ?_
    rintro e w0 ⟨rfl, rfl⟩
    go_wp2_with fail
    refine (drawSerialOf_any a n c _ HX.out (by omega)).mono ?_
    rintro e w1 ⟨p, x1, x2, x3, x4, k, rfl, hp, hk, hb1⟩
    have hp' : p.size ≤ maxLen := by unfold maxLen; omega
    have HP := Lib.hid hp'
    have HB1 := Lib.hid (hb1.trans ((ba1 w1 (.cells #[.string p, .int .i64 x1, .int .i64 x2, .int .i64 x3, .int .i64 x4] 25 (0, 0))).mono hb1.size))
    have HA1 := Lib.hid (boxF0 w1 #[.string p, .int .i64 x1, .int .i64 x2, .int .i64 x3, .int .i64 x4] 25)
    clear hp' hb1
    obtain ⟨so, cd, hso, hcd⟩ : ∃ so cd, soS p x1 x2 x3 x4 k = so ∧ soC p x1 x2 x3 x4 k = cd := ⟨_, _, rfl, rfl⟩
    obtain ⟨bb, hbb⟩ : ∃ bb, isBatchB p x1 x2 x3 x4 = bb := ⟨_, rfl⟩
    have HSO := Lib.hid hso
    have HCD := Lib.hid hcd
    have HBB := Lib.hid hbb
    clear hso hcd hbb
    have hne1 : (cd != cd) = false := by simp
    have hne2 : (bb != bb) = false := by simp
    have hne3 : (so.toList == so.toList) = true := by simp
    go_wp2_with fail
    refine (serialOf_any p x1 x2 x3 x4 k _ HP.out (HT.out.next HB1.out)).mono ?_
    rw [HSO.out, HCD.out]
    rintro e w2 ⟨rfl, hb2⟩
    have hA2 := boxK hb2 HA1.out (by simp)
    have HB2 := Lib.hid (bt0 HB1.out hb2 (Nat.le_refl _))
    have q2 : w1.heap.size < w2.heap.size := boxLt hA2 (by simp)
    clear hb2
    go_wp2_with fail
    refine (specSerialOf_any p x1 x2 x3 x4 k _ HP.out).mono ?_
    rw [HSO.out, HCD.out]
    rintro e w3 ⟨rfl, hb3⟩
    have hA3 := boxK hb3 hA2 (by simp)
    have HB3 := Lib.hid (bt0 HB2.out hb3 (Nat.le_refl _))
    have q3 : w1.heap.size < w3.heap.size := boxLt hA3 (by simp)
    clear hb3 hA2 q2
    go_wp2_with fail
    refine wp_region_ext (by kernel_rfl) (by kernel_rfl) ?_
    repeat (go_big_quiet_step ((first
      | ((go_at_call 10; go_must (apply calls_ext; exact isBatch_val HBB.out HP.out ((HT.out.next HB3.out).ext _))))
      | ((go_at_call 11; go_must (apply calls_ext; exact specIsBatch_val HBB.out HP.out))))))
    refine wpQuiet_nil ?_
    rintro _ ⟨s, rfl⟩
    have HB4 := Lib.hid (bt0 HB3.out s.below (Nat.le_refl _))
    have hA4 := boxK s.below hA3 (by simp)
    have q4 : w1.heap.size < s.w.heap.size := boxLt hA4 (by simp)
    clear hA3 q3
    by_cases hz : cd = 0
    · obtain ⟨hb, k0, k1, e1, e2, e3⟩ := so_law (HCD.out.trans hz)
      have hse : so = serB p x1 x2 x4 k := HSO.out.symm.trans e1
      rw [← hse] at e2 e3
      have HB := Lib.hid hb
      have HSE := Lib.hid hse
      have HE2 := Lib.hid e2
      have HE3 := Lib.hid e3
      have HK0 := Lib.hid k0
      have HK1 := Lib.hid k1
      subst hz
      clear hb hse e1 e2 e3 k0 k1
      go_wp2_with fail
      refine (indexOfSerial_any p x1 x2 x3 x4 so _ HP.out (HT.out.next HB4.out)).mono ?_
      rw [HE2.out, HE3.out]
      rintro e w5 ⟨rfl, hb5⟩
      have hA5 := boxK hb5 hA4 (by simp)
      have HB5 := Lib.hid (bt0 HB4.out hb5 (Nat.le_refl _))
      have q5 : w1.heap.size < w5.heap.size := boxLt hA5 (by simp)
      clear hb5 hA4 q4
      have hnk : (k != k) = false := by simp
      go_wp2_with fail
      refine (roll_any a n c w5 ?_ (by omega)).mono ?_
      · intro i hi
        obtain ⟨b', o, z, h1, h2, h3⟩ := (HX.out.kept (fun k hk => HB5.out.block k hk)) i hi
        exact ⟨b', o, z, h1, Nat.lt_of_lt_of_le h2 HB5.out.size, h3⟩
      rintro e w6 ⟨d, rfl, hd5, hd6, hb6⟩
      have hA6 := boxK hb6 hA5 (by simp)
      have HB6 := Lib.hid (bt0 HB5.out hb6 (Nat.le_refl _))
      have HD6 := Lib.hid hd6
      clear hb6 hd6 hA5
      have q6 : w1.heap.size < w6.heap.size := boxLt hA6 (by simp)
      have hd0 : w0.heap.size ≤ d := Nat.le_trans HB5.out.size hd5
      have hgd : w1.heap.size ≠ d := by omega
      have HPZ := Lib.hid hp
      obtain ⟨_, ha2, _, _, _, hx4, hx4', ha1, _⟩ := batch_parts HB.out
      have HK2 : Hid (0 ≤ x1 + k * x2) := Lib.hid (by have := Int.mul_nonneg HK0.out (show 0 ≤ x2 by omega); omega)
      clear ha2 ha1
      go_wp2_with fail
      refine wp_region_rs (Keep := KeepN) [69, 70, 71, 72, 73, 74, 75, 76, 77] (fun us => _)
        [spN (· = .pointer (some ⟨w1.heap.size, 0, none⟩)), spN (· = .string p), spN (· = .int .i64 p.size), spN (· = .pointer (some ⟨d, 0, none⟩)), spN (· = .pointer (some ⟨w1.heap.size, 4, none⟩)), spN (· = .int .i64 x4), spN (· = .int .i64 (x4 + 1)),
         spN (NumB 0 x4), spN (NumB p.size (p.size + x4))]
        (StDi d w1.heap.size #[.string p, .int .i64 x1, .int .i64 x2, .int .i64 x3, .int .i64 x4] w0) (by kernel_rfl) (by kernel_rfl) (Nat.le_of_ble_eq_true rfl) (fun us => by simp [over, List.mapIdx_cons]; exact rfl) ?_ (fun w => Nat.le_refl _) ?_ ?_
      · exact ⟨HD6.out.kept (w' := World.drew w6) (grownBy_drewN w6 1 none) (by simp), hA6, q6, HB6.out.drew⟩
      · refine ⟨?_, ?_, ?_, ?_, ?_, ?_, ?_, ?_, ?_, trivial⟩
        all_goals (intro us wr hst hd; rw [if_pos (by kernel_rfl)]; dsimp only)
        · clear hd
          go_simp
          exact di_same hst rfl
        · have d69 : us 69 = .pointer (some ⟨w1.heap.size, 0, none⟩) := hd ⟨0, .data⟩ (by simp) rfl
          clear hd
          have hc := hst.2.1
          go_simp
          exact di_same hst rfl
        · have d70 : us 70 = .string p := hd ⟨1, .data⟩ (by simp) rfl
          clear hd
          go_simp
          exact di_same hst rfl
        · clear hd
          go_simp
          exact di_same hst rfl
        · clear hd
          go_simp
          exact di_same hst rfl
        · have d73 : us 73 = .pointer (some ⟨w1.heap.size, 4, none⟩) := hd ⟨4, .data⟩ (by simp) rfl
          clear hd
          have hc := hst.2.1
          go_simp
          exact di_same hst rfl
        · have d74 : us 74 = .int .i64 x4 := hd ⟨5, .data⟩ (by simp) rfl
          clear hd
          have hw : IntKind.i64.wrap (x4 + 1) = x4 + 1 := IntWalk.i64_in _ (by omega)
          go_simp
          exact di_same hst rfl
        · have d72 : us 72 = .pointer (some ⟨d, 0, none⟩) := hd ⟨3, .data⟩ (by simp) rfl
          have d75 : us 75 = .int .i64 (x4 + 1) := hd ⟨6, .data⟩ (by simp) rfl
          clear hd
          go_simp
          exact di_next hst hd0 hgd (by omega) (by omega) (by omega)
        · have d71 : us 71 = .int .i64 p.size := hd ⟨2, .data⟩ (by simp) rfl
          have d76 : NumB 0 x4 (us 76) := hd ⟨7, .data⟩ (by simp) rfl
          clear hd
          obtain ⟨r, e76, l76, u76⟩ := d76
          have hw : IntKind.i64.wrap ((p.size : Int) + r) = p.size + r := IntWalk.i64_in _ (by omega)
          go_simp
          exact di_same hst ⟨_, rfl, by omega, by omega⟩
      · intro us w7 hst hd
        have d77 : NumB p.size (p.size + x4) (us 77) := hd 8 (by simp)
        clear hd
        obtain ⟨at_, e77, l77, u77⟩ := d77
        obtain ⟨hd7, hA7, q7, hb7⟩ := hst
        have HD7 := Lib.hid hd7
        have HB7 := Lib.hid hb7
        clear hd7 hb7 hA6 q6 HB6 HD6
        rw [e77]
        have hcv := run_bytes_of_string (P := Tryd.prog) w7 9 22 5 so Tryd.underlying9 Tryd.underlying22 Tryd.underlying5
        generalize grownCap w7 so.size 0 5 = cp at hcv
        simp only [List.drop, List.length]
        go_wp2_with fail
        obtain ⟨A, hA⟩ : ∃ A : Nat, at_ = A := Int.eq_ofNat_of_zero_le (by omega)
        subst hA
        have hsz : (so.size : Int) = p.size + x4 + 1 := by rw [HSE.out]; exact ser_size HB.out HK0.out HK1.out
        have hAs : A < so.size := by omega
        obtain ⟨u, hu⟩ : ∃ u, so.data.toList[A]? = some u := ⟨_, List.getElem?_eq_getElem (by simpa using hAs)⟩
        obtain ⟨u0, u9⟩ : 48 ≤ u.toNat ∧ u.toNat ≤ 57 := ser_digit (p := p) (x1 := x1) (x2 := x2) (x4 := x4) (i := k) HK2.out (n := A) (by omega) (by rw [← HSE.out]; exact hu)
        have HU := Lib.hid hu
        have hrow : (bytesRow so cp)[A]? = some (.int .u8 (u.toNat : Int)) := by
          rw [bytesRow_at so cp A hAs]
          have h2 := hu
          rw [Array.getElem?_toList] at h2
          obtain ⟨_, h3⟩ := Array.getElem?_eq_some_iff.1 h2
          rw [h3]
        have HR := Lib.hid hrow
        have HRR : Hid (∀ (j : Nat) (u : UInt8), so.data.toList[j]? = some u → (bytesRow so cp)[j]? = some (Value.int .u8 (u.toNat : Int))) := Lib.hid (fun j u h => by
          rw [Array.getElem?_toList] at h
          obtain ⟨h2, h3⟩ := Array.getElem?_eq_some_iff.1 h
          rw [bytesRow_at so cp j h2, h3])
        have hgt : w1.heap.size < w7.heap.size := q7
        have HSZ := Lib.hid hsz
        have hs1 : 1 ≤ so.size := by omega
        have hs400 : so.size ≤ 400 := by omega
        clear hu hrow hsz
        have hdl := HD7.out.lt
        have hbw : w0.heap.size ≤ w7.heap.size := HB7.out.size
        have hS8 : StDt d w1.heap.size w7.heap.size #[.string p, .int .i64 x1, .int .i64 x2, .int .i64 x3, .int .i64 x4] (bytesRow so cp) ((bytesRow so cp).size, (bytesRow so cp).size + 1) w0 ((w7.alloc (.cells (bytesRow so cp) 5 ((bytesRow so cp).size, (bytesRow so cp).size + 1))).drew) :=
          ⟨⟨HD7.out.kept (row := none) (w' := World.drew _) (grownBy_trans (World.grownBy_alloc w7 _ none) (grownBy_drewN _ 1 none)) (by simp), boxK ((ba1 w7 _).drew) hA7 (by simp), Nat.lt_of_lt_of_le q7 (by simp), bt0 HB7.out ((ba1 w7 _).drew) (Nat.le_refl _)⟩, Array.getElem?_push_size, hbw, by omega⟩
        have hfz : A < (bytesRow so cp).size := by
          have := (Array.getElem?_eq_some_iff.1 HR.out).1
          exact this
        have hrs : so.size ≤ (bytesRow so cp).size := by unfold bytesRow; rw [Array.size_append, Array.size_map]; exact Nat.le_add_right _ _
        have hcp : so.size ≤ cp ∨ True := Or.inr trivial
        have HS8 := Lib.hid hS8
        clear hS8 hA7 q7 hcp HD7 HB7
        generalize ((w7.alloc (.cells (bytesRow so cp) 5 ((bytesRow so cp).size, (bytesRow so cp).size + 1))).drew) = w8 at *
        generalize w7.heap.size = t at *
        generalize bytesRow so cp = R at *
        refine wp_region_rs (Keep := KeepN) [80, 81, 82, 83, 84, 85, 86, 87, 88, 89, 90, 91, 92, 93, 94] (fun us => _)
          [spN (· = .slice (some ⟨t, 0, none⟩) so.size cp), spN (· = .int .i64 A), spN (· = .slice (some ⟨t, 0, none⟩) so.size cp), spN (· = .int .i64 A), spN (· = .pointer (some ⟨t, A, none⟩)),
           spN (· = .int .u8 u.toNat), spN (· = .int .u8 (u.toNat - 48)), spN (· = .pointer (some ⟨d, 0, none⟩)), spN (NumB 0 8), spN (NumB 1 9), spN (U8B fun r => 1 ≤ r ∧ r ≤ 9),
           spN (U8B fun q => ∃ r : Int, (1 ≤ r ∧ r ≤ 9) ∧ q = u.toNat - 48 + r), spN (U8B fun q => ∃ r : Int, (1 ≤ r ∧ r ≤ 9) ∧ q = (u.toNat - 48 + r) % 10), spN (U8B fun q => ∃ r : Int, (1 ≤ r ∧ r ≤ 9) ∧ q = 48 + (u.toNat - 48 + r) % 10), spN (· = .pointer (some ⟨t, A, none⟩))]
          (StDt d w1.heap.size t #[.string p, .int .i64 x1, .int .i64 x2, .int .i64 x3, .int .i64 x4] R (R.size, R.size + 1) w0) (by kernel_rfl) (by kernel_rfl) (Nat.le_of_ble_eq_true rfl) (fun us => by simp [over, List.mapIdx_cons]; exact rfl) ?_ (fun w => Nat.le_refl _) ?_ ?_
        · exact HS8.out.drew
        · refine ⟨?_, ?_, ?_, ?_, ?_, ?_, ?_, ?_, ?_, ?_, ?_, ?_, ?_, ?_, ?_, trivial⟩
          all_goals (intro us wr hst hd; rw [if_pos (by kernel_rfl)]; dsimp only)
          · clear hd
            go_simp
            exact dt_same hst rfl
          · clear hd
            go_simp
            exact dt_same hst rfl
          · clear hd
            go_simp
            exact dt_same hst rfl
          · clear hd
            go_simp
            exact dt_same hst rfl
          · have d82 : us 82 = .slice (some ⟨t, 0, none⟩) so.size cp := hd ⟨2, .data⟩ (by simp) rfl
            have d83 : us 83 = .int .i64 A := hd ⟨3, .data⟩ (by simp) rfl
            clear hd
            have hA1 : (A : Int) < so.size := by omega
            go_simp
            exact dt_same hst rfl
          · have d84 : us 84 = .pointer (some ⟨t, A, none⟩) := hd ⟨4, .data⟩ (by simp) rfl
            clear hd
            have hc2 : wr.cell? ⟨t, A, none⟩ = some (.int .u8 u.toNat) := by have hh := hst.2.1; simp [World.cell?, hh, HR.out]
            go_simp
            exact dt_same hst rfl
          · have d85 : us 85 = .int .u8 u.toNat := hd ⟨5, .data⟩ (by simp) rfl
            clear hd
            have hw : IntKind.u8.wrap ((u.toNat : Int) - 48) = u.toNat - 48 := IntWalk.u8_in _ (by omega)
            go_simp
            exact dt_same hst rfl
          · clear hd
            go_simp
            exact dt_same hst rfl
          · have d87 : us 87 = .pointer (some ⟨d, 0, none⟩) := hd ⟨7, .data⟩ (by simp) rfl
            clear hd
            go_simp
            exact dt_next hst hd0 hgd (by omega) (by omega) (by omega)
          · have d88 : NumB 0 8 (us 88) := hd ⟨8, .data⟩ (by simp) rfl
            clear hd
            obtain ⟨r, e88, l88, u88⟩ := d88
            have hw : IntKind.i64.wrap (1 + r) = 1 + r := IntWalk.i64_in _ (by omega)
            go_simp
            exact dt_same hst ⟨_, rfl, by omega, by omega⟩
          · have d89 : NumB 1 9 (us 89) := hd ⟨9, .data⟩ (by simp) rfl
            clear hd
            obtain ⟨r, e89, l89, u89⟩ := d89
            have hw : IntKind.u8.wrap r = r := IntWalk.u8_in _ (by omega)
            go_simp
            exact dt_same hst ⟨r, rfl, by omega, by omega⟩
          · have d86 : us 86 = .int .u8 (u.toNat - 48) := hd ⟨6, .data⟩ (by simp) rfl
            have d90 : U8B (fun r => 1 ≤ r ∧ r ≤ 9) (us 90) := hd ⟨10, .data⟩ (by simp) rfl
            clear hd
            obtain ⟨r, e90, l90, u90⟩ := d90
            have hw : IntKind.u8.wrap ((u.toNat : Int) - 48 + r) = u.toNat - 48 + r := IntWalk.u8_in _ (by omega)
            go_simp
            exact dt_same hst ⟨_, rfl, r, ⟨l90, u90⟩, rfl⟩
          · have d91 : U8B (fun q => ∃ r : Int, (1 ≤ r ∧ r ≤ 9) ∧ q = u.toNat - 48 + r) (us 91) := hd ⟨11, .data⟩ (by simp) rfl
            clear hd
            obtain ⟨q, e91, r, ⟨l91, u91⟩, rfl⟩ := d91
            have ht : ((u.toNat : Int) - 48 + r).tmod 10 = (u.toNat - 48 + r) % 10 := Int.tmod_eq_emod_of_nonneg (by omega)
            have hw : IntKind.u8.wrap (((u.toNat : Int) - 48 + r) % 10) = (u.toNat - 48 + r) % 10 := IntWalk.u8_in _ (by omega)
            go_simp
            exact dt_same hst ⟨_, rfl, r, ⟨l91, u91⟩, rfl⟩
          · have d92 : U8B (fun q => ∃ r : Int, (1 ≤ r ∧ r ≤ 9) ∧ q = (u.toNat - 48 + r) % 10) (us 92) := hd ⟨12, .data⟩ (by simp) rfl
            clear hd
            obtain ⟨q, e92, r, ⟨l92, u92⟩, rfl⟩ := d92
            have hw : IntKind.u8.wrap (48 + ((u.toNat : Int) - 48 + r) % 10) = 48 + (u.toNat - 48 + r) % 10 := IntWalk.u8_in _ (by omega)
            go_simp
            exact dt_same hst ⟨_, rfl, r, ⟨l92, u92⟩, rfl⟩
          · have d80 : us 80 = .slice (some ⟨t, 0, none⟩) so.size cp := hd ⟨0, .data⟩ (by simp) rfl
            have d81 : us 81 = .int .i64 A := hd ⟨1, .data⟩ (by simp) rfl
            clear hd
            have hA1 : (A : Int) < so.size := by omega
            go_simp
            exact dt_same hst rfl
        · intro us9 w9 hst hd
          have d93 : U8B (fun q => ∃ r : Int, (1 ≤ r ∧ r ≤ 9) ∧ q = 48 + (u.toNat - 48 + r) % 10) (us9 93) := hd 13 (by simp)
          have d94 : us9 94 = .pointer (some ⟨t, A, none⟩) := hd 14 (by simp)
          clear hd
          obtain ⟨q, e93, r, ⟨l93, u93⟩, hq⟩ := d93
          obtain ⟨v, hv⟩ : ∃ v : UInt8, (v.toNat : Int) = q := ⟨UInt8.ofNat q.toNat, by rw [UInt8.toNat_ofNat', Nat.mod_eq_of_lt (by omega)]; omega⟩
          have h4 := turnB_none HB.out HSE.out HU.out u0 u9 l93 u93 (hv.trans hq)
          have hcs := turned_cells (v := v) hst.2.1 HRR.out hAs
          have hcv2 := run_convert_bytes_back (P := Tryd.prog) (w9.setCell ⟨t, A, none⟩ (.int .u8 (v.toNat : Int))) 22 9 5 ⟨t, 0, none⟩ cp (so.data.toList.set A v) Tryd.underlying22 Tryd.underlying5 Tryd.underlying9 hcs
          have hl : (so.data.toList.set A v).length = so.size := by simp
          rw [hl] at hcv2
          obtain ⟨tx, htx⟩ : ∃ tx, turnB so A v = tx := ⟨_, rfl⟩
          have htx2 : (⟨(so.data.toList.set A v).toArray⟩ : ByteArray) = tx := htx
          rw [htx2] at hcv2
          rw [htx] at h4
          subst hv
          have H4 := Lib.hid h4
          have hcA : w9.cell? ⟨t, A, none⟩ = some (.int .u8 u.toNat) := by have hh := hst.2.1; simp [World.cell?, hh, HR.out]
          have hfA : w9.frozen? ⟨t, A, none⟩ = false := by
            have hh := hst.2.1
            simp only [World.frozen?, hh]
            simp
            omega
          have hA9 : ∀ i, w9.cell? ⟨w1.heap.size, i, none⟩ = #[.string p, .int .i64 x1, .int .i64 x2, .int .i64 x3, .int .i64 x4][i]? := hst.1.2.1
          have HB10 := Lib.hid (Below.setCell hst.1.2.2.2 (show w0.heap.size ≤ (⟨t, A, none⟩ : Addr).block from hbw) (.int .u8 (v.toNat : Int)))
          have hn1 : ¬ w1.heap.size = t := by omega
          have hn2 : ¬ t = w1.heap.size := by omega
          clear hst hq h4 hcs hl htx htx2
          simp only [List.drop, List.length]
          go_wp2_with fail
          refine (indexOfSerial_any p x1 x2 x3 x4 tx _ HP.out (HT.out.next HB10.out)).mono ?_
          rw [H4.out]
          generalize ioK p x1 x2 x3 x4 tx = kk
          rintro e w11 ⟨rfl, hb11⟩
          have HB11 := Lib.hid (bt0 HB10.out hb11 (Nat.le_refl _))
          clear hb11 hcv2 hcv hcA hfA hA9
          go_wp2_with fail
          have hlt1 : so.size - 1 < so.size := by omega
          have hlast := ser_cut HSE.out hlt1
          have hcb := chkB_bd (so.extract 0 (so.size - 1))
          obtain ⟨ck, hck⟩ : ∃ ck, chkB (so.extract 0 (so.size - 1)) = ck := ⟨_, rfl⟩
          have HCK := Lib.hid hck
          rw [hck] at hlast hcb
          clear hck
          obtain ⟨c0, c9⟩ := hcb
          have hex : (so.extract 0 (so.size - 1)).size ≤ 400 := by
            rw [ByteArray.size_extract]; omega
          have HLA := Lib.hid hlast
          clear hlast
          refine (checkDigit_any _ _ hex).mono ?_
          rw [HCK.out]
          rintro e w12 ⟨rfl, hb12⟩
          have HB12 := Lib.hid (bt0 HB11.out hb12 (Nat.le_refl _))
          clear hb12 hex
          have hlast := HLA.out
          have hw1 : IntKind.u8.wrap (48 + ck - 48) = ck := by
            rw [IntWalk.u8_in _ (by omega)]; omega
          have hw2 : IntKind.i64.wrap ck = ck := IntWalk.i64_in _ (by omega)
          go_wp2_with fail
          go_ret
          exact ⟨by first | rfl | (simp; done), HB12.out⟩
    · have hz' : (cd != 0) = true := by simpa using hz
      go_wp2_with fail
      go_ret
      exact ⟨rfl, HB4.out⟩

end Go.Proofs.YtnijdfdcjjbneaaDoor
