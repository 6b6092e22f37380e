import Derived.Test.YtkmfgchbfchdbaaGreatDoorM1
import Derived.Test.YtkmfgchbfchdbaaGreatDoorVSpO2
namespace Go.Proofs.YtkmfgchbfchdbaaGreatDoor
open Go.RowKit

theorem row4 {w : World} {a b c d : Value} {t : TypeId} {f : Nat → Value} (h0 : f 0 = a) (h1 : f 1 = b) (h2 : f 2 = c) (h3 : f 3 = d) : RowF 4 f (.slice (some ⟨w.heap.size, 0, none⟩) 4 4) (w.alloc (.cells #[a, b, c, d] t (0, 0))) := by
  refine ⟨w.heap.size, rfl, fun i hi => ?_⟩
  rw [boxF0]
  match i, hi with
  | 0, _ => rw [h0]; rfl
  | 1, _ => rw [h1]; rfl
  | 2, _ => rw [h2]; rfl
  | 3, _ => rw [h3]; rfl
set_option maxHeartbeats 400000 in
theorem l32Words_any (w : World) : Calls Tryz.prog 103 #[] w (RetRow w 4 fun i => .string (wordJB ((i : Int) + 1))) := by
  go_enter Tryz.func103, Tryz.ntmps103
  go_wp2_with fail
  go_ret
  exact ⟨_, rfl, row4 rfl rfl rfl rfl, ba1 _ _⟩

set_option maxRecDepth 100000 in
set_option maxHeartbeats 1000000 in
theorem l32Sum_any (x : Int) (s : ByteArray) (w : World) (hs : s.size ≤ 1048576) (hx : 0 ≤ x ∧ x < 65521) :
    Calls Tryz.prog 105 #[.int .i64 x, .string s] w fun e w' => e = .returned (.int .i64 (sumJ x s.data.toList)) ∧ w = w' := by
  have hsl : s.data.toList.length = s.size := rfl
  go_enter Tryz.func105, Tryz.ntmps105
  go_wp2_with fail
  go_loop [0, 5] (fun q i => ∃ j : Nat, j ≤ s.size ∧ i = .int .i64 j ∧ q = .int .i64 (sumJ x (s.data.toList.take j))) (fun _ i => s.size - (intOf i).toNat)
  case atStart => exact ⟨0, Nat.zero_le _, rfl, rfl⟩
  case round =>
    obtain ⟨j, hj, rfl, rfl⟩ := hrel
    have hsr := sumJ_range hx (s.data.toList.take j)
    by_cases hlt : j < s.size
    · have hxj : s.data.toList[j]? = some s[j] := by rw [List.getElem?_eq_getElem (show j < s.data.toList.length from hlt)]; rfl
      have HSS := Lib.hid (sumJ_take (s := x) hxj)
      have hx8 : (s[j]).toNat < 256 := (s[j]).toNat_lt
      obtain ⟨q, hq⟩ : ∃ q, sumJ x (s.data.toList.take j) = q := ⟨_, rfl⟩
      rw [hq] at hsr HSS ⊢
      have e1 : IntKind.i64.wrap (131 * q) = 131 * q := IntWalk.i64_in _ (by omega)
      have e2 : IntKind.i64.wrap ((s[j]).toNat : Int) = ((s[j]).toNat : Int) := IntWalk.i64_in _ (by omega)
      have e3 : IntKind.i64.wrap (131 * q + ((s[j]).toNat : Int)) = 131 * q + ((s[j]).toNat : Int) := IntWalk.i64_in _ (by omega)
      have e4 : IntKind.i64.wrap (131 * q + ((s[j]).toNat : Int) + 1) = 131 * q + ((s[j]).toNat : Int) + 1 := IntWalk.i64_in _ (by omega)
      have e5 : (131 * q + ((s[j]).toNat : Int) + 1).tmod 65521 = (131 * q + ((s[j]).toNat : Int) + 1) % 65521 := Int.tmod_eq_emod_of_nonneg (by omega)
      clear hq hxj
      go_wp2_with fail
      exact ⟨⟨j + 1, by omega, by go_num, by rw [HSS.out]⟩, by simp [intOf]; omega⟩
    · obtain rfl : j = s.size := Nat.le_antisymm hj (Nat.le_of_not_lt hlt)
      go_wp2_with fail
      go_ret
      exact ⟨by rw [← hsl, List.take_length]; rfl, rfl⟩

/-- a line as a text -/
def lineB (n : Nat) (s : Int) (r : Rc) : ByteArray := ⟨(lineJ n s r).toArray⟩
set_option maxRecDepth 100000 in
set_option maxHeartbeats 1000000 in
theorem l32Line_any (n : Nat) (r : Rc) (s : Int) (w : World) (hok : r.ok = true) (hn : n < 1000) (hs : 0 ≤ s ∧ s < 65521) :
    Calls Tryz.prog 84 #[.int .i64 n, .agg #[.int .i64 r.k, .int .i64 r.n], .int .i64 s] w fun e w' => e = .returned (.tuple #[.string (lineB n s r), .int .i64 (nextJ n s r)]) ∧ Below w.heap.size w w' := by
  have hok' := (r.ok_iff).1 hok
  obtain ⟨k, i⟩ := r
  dsimp only at hok' ⊢
  obtain ⟨q, rfl⟩ : ∃ q : Nat, k = (q : Int) + 1 := ⟨(k - 1).toNat, by omega⟩
  have hq4 : q < 4 := by omega
  obtain ⟨dn, hdn⟩ : ∃ dn, decB n = dn := ⟨_, rfl⟩
  obtain ⟨di, hdi⟩ : ∃ di, decB i = di := ⟨_, rfl⟩
  obtain ⟨wb, hwb⟩ : ∃ wb, wordJB ((q : Int) + 1) = wb := ⟨_, rfl⟩
  have HDN := Lib.hid hdn
  have HDI := Lib.hid hdi
  have HWB := Lib.hid hwb
  have hzn : dn.size ≤ 3 := by rw [← hdn]; exact itoa_len (n := (n : Int)) 2 (by omega) (by omega)
  have hzi : di.size ≤ 3 := by rw [← hdi]; exact itoa_len (n := i) 2 (by omega) (by omega)
  have hzw : wb.size ≤ 5 := by rw [← hwb]; exact wordJB_size _
  obtain ⟨c1, hc1⟩ : ∃ c1, dn ++ ⟨#[32]⟩ = c1 := ⟨_, rfl⟩
  obtain ⟨c2, hc2⟩ : ∃ c2, c1 ++ wb = c2 := ⟨_, rfl⟩
  obtain ⟨c3, hc3⟩ : ∃ c3, c2 ++ ⟨#[32]⟩ = c3 := ⟨_, rfl⟩
  obtain ⟨hh, hc4⟩ : ∃ hh, c3 ++ di = hh := ⟨_, rfl⟩
  have hz1 : c1.size ≤ 4 := by rw [← hc1, ByteArray.size_append]; show dn.size + 1 ≤ 4; omega
  have hz2 : c2.size ≤ 9 := by rw [← hc2, ByteArray.size_append]; omega
  have hz3 : c3.size ≤ 10 := by rw [← hc3, ByteArray.size_append]; show c2.size + 1 ≤ 10; omega
  have hz4 : hh.size ≤ 13 := by rw [← hc4, ByteArray.size_append]; omega
  have HC1 := Lib.hid hc1
  have HC2 := Lib.hid hc2
  have HC3 := Lib.hid hc3
  have HC4 := Lib.hid hc4
  have HHD : Hid (hh.data.toList = headJ n ⟨(q : Int) + 1, i⟩) := Lib.hid (by
    rw [headJ, ← hc4, ← hc3, ← hc2, ← hc1, ← hdn, ← hdi, ← hwb]
    simp [decB, wordJB])
  clear hc1 hc2 hc3 hc4
  clear hdn hdi hwb hok
  go_enter Tryz.func84, Tryz.ntmps84
  go_wp2_with fail
  have HW := Lib.hid (ba1 w (.cells #[.int .i64 ((q : Int) + 1), .int .i64 i] 59 (0, 0)))
  have hbx := push_at w (.cells #[.int .i64 ((q : Int) + 1), .int .i64 i] 59 (0, 0))
  have hx0 := blkLt hbx
  have hc0 := (heap_cellR hbx).1
  clear hbx
  generalize w.alloc (.cells #[.int .i64 ((q : Int) + 1), .int .i64 i] 59 (0, 0)) = W at *
  refine wp_region_rt (Keep := KB) [10, 11, 12, 13, 14, 15, 16, 17, 18, 19, 20, 21, 22, 23, 24] (fun us => _)
    [spE (.int .i64 (n : Int)),
     spE (.string dn),
     spE (.string c1),
     spRow 4 (fun i => .string (wordJB ((i : Int) + 1))),
     spE (.pointer (some ⟨w.heap.size, 0, none⟩)),
     spE (.int .i64 ((q : Int) + 1)),
     spE (.int .i64 (q : Nat)),
     spPtr (.string wb),
     spE (.string wb),
     spE (.string c2),
     spE (.string c3),
     spE (.pointer (some ⟨w.heap.size, 1, none⟩)),
     spE (.int .i64 i),
     spE (.string di),
     spE (.string hh)]
    (StX W) (by kernel_rfl) (by kernel_rfl) (Nat.le_of_ble_eq_true rfl) (fun us => by simp [over, List.mapIdx_cons]; exact rfl) (stX0 _) kbr ?_ ?_
  · refine ⟨?_, ?_, ?_, ?_, ?_, ?_, ?_, ?_, ?_, ?_, ?_, ?_, ?_, ?_, ?_, trivial⟩
    all_goals (intro us wx hst hd; rw [if_pos (by kernel_rfl)]; dsimp only)
    · clear hd
      go_simp
      exact kb_same hst rfl
    · have d10 : us 10 = (.int .i64 (n : Int)) := hd ⟨0, .data⟩ (by simp) rfl
      clear hd
      go_simp
      exact (l01Dec_any n (n : Int) wx (by omega) (by omega) (by omega)).mono fun e w' ⟨he, hb⟩ => ⟨_, by rw [he, HDN.out], kb_below hst hb rfl⟩
    · have d11 : us 11 = (.string dn) := hd ⟨1, .data⟩ (by simp) rfl
      clear hd
      have hs3 : ¬ 9223372036854775807 < dn.size + 1 := by omega
      go_simp
      exact kb_same hst (congrArg Value.string HC1.out)
    · clear hd
      go_simp
      exact (l32Words_any wx).mono fun e w' ⟨v, he, hr, hb⟩ => ⟨v, he, kb_below hst hb hr⟩
    · clear hd
      go_simp
      exact kb_same hst rfl
    · have d14 : us 14 = (.pointer (some ⟨w.heap.size, 0, none⟩)) := hd ⟨4, .data⟩ (by simp) rfl
      clear hd
      have hB := boxB hst hc0 hx0
      go_simp
      exact kb_same hst rfl
    · have d15 : us 15 = (.int .i64 ((q : Int) + 1)) := hd ⟨5, .data⟩ (by simp) rfl
      clear hd
      have e1 : IntKind.i64.wrap (q : Int) = (q : Int) := IntWalk.i64_in _ (by omega)
      go_simp
      exact kb_same hst rfl
    · have d13 : RowF 4 (fun i => .string (wordJB ((i : Int) + 1))) (us 13) wx := hd ⟨3, .data⟩ (by simp) rfl
      have d16 : us 16 = (.int .i64 (q : Nat)) := hd ⟨6, .data⟩ (by simp) rfl
      clear hd
      obtain ⟨br, er, hcr⟩ := row_at d13
      have hck := hcr q hq4
      rw [HWB.out] at hck
      have hqi : (q : Int) < 4 := by omega
      clear hcr d13
      go_simp
      exact kb_same hst ⟨br, q, rfl, hck⟩
    · obtain ⟨bp17, op17, d17, hp17⟩ : ∃ b' o', us 17 = .pointer (some ⟨b', o', none⟩) ∧ wx.cell? ⟨b', o', none⟩ = some (.string wb) := hd ⟨7, .data⟩ (by simp) rfl
      clear hd
      go_simp
      exact kb_same hst rfl
    · have d12 : us 12 = (.string c1) := hd ⟨2, .data⟩ (by simp) rfl
      have d18 : us 18 = (.string wb) := hd ⟨8, .data⟩ (by simp) rfl
      clear hd
      have hs3 : ¬ 9223372036854775807 < c1.size + wb.size := by omega
      go_simp
      exact kb_same hst (congrArg Value.string HC2.out)
    · have d19 : us 19 = (.string c2) := hd ⟨9, .data⟩ (by simp) rfl
      clear hd
      have hs3 : ¬ 9223372036854775807 < c2.size + 1 := by omega
      go_simp
      exact kb_same hst (congrArg Value.string HC3.out)
    · clear hd
      go_simp
      exact kb_same hst rfl
    · have d21 : us 21 = (.pointer (some ⟨w.heap.size, 1, none⟩)) := hd ⟨11, .data⟩ (by simp) rfl
      clear hd
      have hB := boxB hst hc0 hx0
      go_simp
      exact kb_same hst rfl
    · have d22 : us 22 = (.int .i64 i) := hd ⟨12, .data⟩ (by simp) rfl
      clear hd
      go_simp
      exact (l01Dec_any 200 i wx (by omega) (by omega) (by omega)).mono fun e w' ⟨he, hb⟩ => ⟨_, by rw [he, HDI.out], kb_below hst hb rfl⟩
    · have d20 : us 20 = (.string c3) := hd ⟨10, .data⟩ (by simp) rfl
      have d23 : us 23 = (.string di) := hd ⟨13, .data⟩ (by simp) rfl
      clear hd
      have hs3 : ¬ 9223372036854775807 < c3.size + di.size := by omega
      go_simp
      exact kb_same hst (congrArg Value.string HC4.out)
  · intro us wx hst hd
    have d24 : us 24 = (.string hh) := hd 14 (by simp)
    clear hd
    simp only [List.drop, List.length]
    rw [d24]
    have HBX := Lib.hid (bt0 HW.out hst (Nat.le_refl _))
    clear hst hc0 hx0
    go_wp2_with fail
    refine (l32Sum_any s hh wx (by omega) hs).mono ?_
    rintro e w2 ⟨rfl, rfl⟩
    have HN : Hid (sumJ s hh.data.toList = nextJ n s ⟨(q : Int) + 1, i⟩) := Lib.hid (by rw [HHD.out, nextJ])
    have hnr := nextJ_range (n := n) (r := ⟨(q : Int) + 1, i⟩) hs
    rw [HN.out]
    obtain ⟨nx, hnx⟩ : ∃ nx, nextJ n s ⟨(q : Int) + 1, i⟩ = nx := ⟨_, rfl⟩
    rw [hnx] at hnr ⊢
    have HNX := Lib.hid hnx
    have hs4 : ¬ 9223372036854775807 < hh.size + 1 := by omega
    clear hnx
    go_wp2_with fail
    refine (l01Dec_any 65521 nx wx (by omega) (by omega) (by omega)).mono ?_
    rintro e w3 ⟨rfl, hb3⟩
    have hzx : (decB nx).size ≤ 5 := itoa_len (n := nx) 4 (by omega) (by omega)
    have HX3 := Lib.hid (bt0 HBX.out hb3 (Nat.le_refl _))
    have HLB : Hid (hh ++ ⟨#[32]⟩ ++ decB nx = lineB n s ⟨(q : Int) + 1, i⟩) := Lib.hid (by
      apply ByteArray.ext
      apply Array.toList_inj.1
      have e : (lineB n s ⟨(q : Int) + 1, i⟩).data.toList = headJ n ⟨(q : Int) + 1, i⟩ ++ 32 :: Lib.itoa nx := by rw [← HNX.out]; rfl
      rw [e, ← HHD.out]
      simp [decB])
    obtain ⟨dx, hdx⟩ : ∃ dx, decB nx = dx := ⟨_, rfl⟩
    rw [hdx] at HLB hzx ⊢
    obtain ⟨h5, hh5⟩ : ∃ h5, hh ++ ⟨#[32]⟩ = h5 := ⟨_, rfl⟩
    have hz5 : h5.size ≤ 14 := by rw [← hh5, ByteArray.size_append]; show hh.size + 1 ≤ 14; omega
    rw [hh5] at HLB ⊢
    have hs5 : ¬ 9223372036854775807 < h5.size + dx.size := by omega
    clear hb3 hdx hh5
    go_wp2_with fail
    go_ret2
    exact ⟨by rw [← HLB.out, HNX.out]; rfl, HX3.out⟩

end Go.Proofs.YtkmfgchbfchdbaaGreatDoor
