import Derived.Test.YtnijdfdcjjbneaaDoorUDraw31
import Derived.Test.YtnijdfdcjjbneaaDoorUIdx
namespace Go.Proofs.YtnijdfdcjjbneaaDoor
open Go.RowKit

/-- a text is handed back, the source goes on -/
def RetDmg (w : World) (b n : Nat) (e : Ending) (w' : World) : Prop := ∃ s : ByteArray, e = .returned (.string s) ∧ s.size ≤ n ∧ Src w' b ∧ w.grownBy w' (some b)
theorem eightT {p : Value → Prop} {a b c d e f g h : Value} (h0 : p a) (h1 : p b) (h2 : p c) (h3 : p d) (h4 : p e) (h5 : p f) (h6 : p g) (h7 : p h) : ∀ i, i < 8 → ∃ u, (#[a, b, c, d, e, f, g, h] : Array Value)[i]? = some u ∧ p u
  | 0, _ => ⟨_, rfl, h0⟩
  | 1, _ => ⟨_, rfl, h1⟩
  | 2, _ => ⟨_, rfl, h2⟩
  | 3, _ => ⟨_, rfl, h3⟩
  | 4, _ => ⟨_, rfl, h4⟩
  | 5, _ => ⟨_, rfl, h5⟩
  | 6, _ => ⟨_, rfl, h6⟩
  | 7, _ => ⟨_, rfl, h7⟩
theorem ext_size (s : ByteArray) (i j : Nat) : (s.extract i j).size = min j s.size - i := ByteArray.size_extract

set_option maxRecDepth 100000 in
set_option maxHeartbeats 1000000 in
theorem l01Damage_any (b : Nat) (s : ByteArray) (n : Nat) (w : World) (hs : Src w b) (hn : s.size ≤ n) (hn2 : n ≤ 1099511627776) :
    Calls Tryd.prog 51 #[.pointer (some ⟨b, 0, none⟩), .string s] w (RetDmg w b (n + 1)) := by
  have HS := Lib.hid hs
  clear hs
  go_enter Tryd.func51, Tryd.ntmps51
  go_wp2_with fail
  refine (l01Next_any b _ _ HS.out (by omega) (by omega)).mono ?_
  rintro e w1 ⟨r, rfl, r0, r1, hs1, hg1⟩
  have HS1 := Lib.hid hs1
  have HG1 := Lib.hid hg1
  obtain ⟨k, rfl⟩ := Int.eq_ofNat_of_zero_le r0
  have hk : k ≤ s.size := by omega
  clear hs1 hg1 r1 r0
  go_wp2_with fail
  refine (l01Next_any b 8 _ HS1.out (by decide) (by decide)).mono ?_
  rintro e w2 ⟨q, rfl, q0, q1, hs2, hg2⟩
  have HS2 := Lib.hid hs2
  have HG2 := Lib.hid (grownBy_trans HG1.out hg2)
  clear hs2 hg2
  have hq : q = 0 ∨ q = 1 ∨ q = 2 ∨ 3 ≤ q := by omega
  clear q1
  have hki : (k : Int) ≤ (s.size : Int) := by omega
  rcases hq with rfl | rfl | rfl | hq
  · go_wp2_with fail
    go_ret
    exact ⟨_, rfl, by rw [ext_size]; omega, HS2.out, HG2.out⟩
  · go_wp2_with fail
    refine wp_region_rs (Keep := KeepB b) [20, 21, 22, 23, 24, 25, 26, 27, 28, 29, 30, 31, 32] (fun us => _)
      [spEq b (.string s), spEq b (.int .i64 k), spEq b (.string (s.extract 0 k)), spTab b 8 (StrB 1), spEq b (.pointer (some ⟨b, 0, none⟩)), spV b (NumB 0 7), spAt b (StrB 1), spV b (StrB 1), spV b (StrB (k + 1)), spEq b (.string s), spEq b (.int .i64 k), spEq b (.string (s.extract k s.size)), spV b (StrB (n + 1))]
      (StB b w2) (by kernel_rfl) (by kernel_rfl) (Nat.le_of_ble_eq_true rfl) (fun us => by simp [over, List.mapIdx_cons]; exact rfl) ?_ (fun w => World.grownBy.refl _ _) ?_ ?_
    · exact ⟨HS2.out.kept (row := none) (w' := World.drew w2) (grownBy_drewN w2 1 none) (by simp), grownBy_drewN w2 1 _⟩
    · refine ⟨?_, ?_, ?_, ?_, ?_, ?_, ?_, ?_, ?_, ?_, ?_, ?_, ?_, trivial⟩
      all_goals (intro us wr hst hd; rw [if_pos (by kernel_rfl)]; dsimp only)
      · clear hd
        go_simp
        exact rs_same hst rfl
      · clear hd
        go_simp
        exact rs_same hst rfl
      · have d20 : us 20 = .string s := hd ⟨0, .data⟩ (by simp) rfl
        have d21 : us 21 = .int .i64 k := hd ⟨1, .data⟩ (by simp) rfl
        clear hd
        go_simp
        exact rs_same hst rfl
      · clear hd
        go_simp
        exact rs_tab hst (eightT (strB _ (by decide)) (strB _ (by decide)) (strB _ (by decide)) (strB _ (by decide)) (strB _ (by decide)) (strB _ (by decide)) (strB _ (by decide)) (strB _ (by decide)))
      · clear hd
        go_simp
        exact rs_same hst rfl
      · have d24 : us 24 = .pointer (some ⟨b, 0, none⟩) := hd ⟨4, .data⟩ (by simp) rfl
        clear hd
        go_simp
        exact next_rs hst (by decide) (by decide) (by decide) (by decide)
      · have d23 : TabP b 8 (StrB 1) (us 23) wr := hd ⟨3, .data⟩ (by simp) rfl
        have d25 : NumB 0 7 (us 25) := hd ⟨5, .data⟩ (by simp) rfl
        clear hd
        obtain ⟨g, e23, hbg, hcs⟩ := d23
        obtain ⟨r, e25, l25, u25⟩ := d25
        have hu : r < 8 := by omega
        obtain ⟨u, hc, hq⟩ := hcs r.toNat (by omega)
        replace hc := Lib.hid hc
        go_simp
        exact rs_same hst ⟨g, _, u, rfl, hbg, hc.out, hq⟩
      · have d26 : AtP b (StrB 1) (us 26) wr := hd ⟨6, .data⟩ (by simp) rfl
        clear hd
        obtain ⟨g, i, u, e26, hbg, hc, q, rfl, hq⟩ := d26
        go_simp
        exact rs_same hst ⟨_, rfl, hq⟩
      · have d22 : us 22 = .string (s.extract 0 k) := hd ⟨2, .data⟩ (by simp) rfl
        have d27 : StrB 1 (us 27) := hd ⟨7, .data⟩ (by simp) rfl
        clear hd
        obtain ⟨q, e27, hq⟩ := d27
        have hsz : (s.extract 0 k).size ≤ k := by rw [ext_size]; omega
        obtain ⟨x, hx⟩ : ∃ x, s.extract 0 k = x := ⟨_, rfl⟩
        rw [hx] at d22 hsz
        clear hx
        have hs1 : ¬ 9223372036854775807 < x.size + q.size := by omega
        have hs2 : (x ++ q).size ≤ k + 1 := by rw [ByteArray.size_append]; omega
        have HS2' := Lib.hid hs2
        clear hs2
        go_simp

        exact rs_same hst ⟨_, rfl, HS2'.out⟩
      · clear hd
        go_simp
        exact rs_same hst rfl
      · clear hd
        go_simp
        exact rs_same hst rfl
      · have d29 : us 29 = .string s := hd ⟨9, .data⟩ (by simp) rfl
        have d30 : us 30 = .int .i64 k := hd ⟨10, .data⟩ (by simp) rfl
        clear hd
        go_simp
        exact rs_same hst rfl
      · have d28 : StrB (k + 1) (us 28) := hd ⟨8, .data⟩ (by simp) rfl
        have d31 : us 31 = .string (s.extract k s.size) := hd ⟨11, .data⟩ (by simp) rfl
        clear hd
        obtain ⟨x, e28, hx⟩ := d28
        have hsz : (s.extract k s.size).size = s.size - k := by rw [ext_size]; omega
        obtain ⟨q, hq⟩ : ∃ q, s.extract k s.size = q := ⟨_, rfl⟩
        rw [hq] at d31 hsz
        clear hq
        have hs1 : ¬ 9223372036854775807 < x.size + q.size := by omega
        have hs2 : (x ++ q).size ≤ n + 1 := by rw [ByteArray.size_append]; omega
        have HS2' := Lib.hid hs2
        clear hs2 hsz
        go_simp
        exact rs_same hst ⟨_, rfl, HS2'.out⟩
    · intro us wr hst hd
      have d32 : StrB (n + 1) (us 32) := hd 12 (by simp)
      clear hd
      obtain ⟨x, e32, hx⟩ := d32
      have HST := Lib.hid hst
      clear hst
      simp only [List.drop, List.length]
      rw [e32]
      go_wp2_with fail
      go_ret
      exact ⟨_, rfl, hx, HST.out.1, grownBy_trans HG2.out HST.out.2⟩
  · by_cases hlt : (k : Int) < s.size
    · have hsum : (s.extract 0 k).size + (s.extract (k + 1) s.size).size ≤ n := by rw [ext_size, ext_size]; omega
      have hb1 : (s.extract 0 k).size + (s.extract (k + 1) s.size).size ≤ 9223372036854775807 := by omega
      have hk1 : (k : Int) + 1 ≤ s.size := by omega
      have hw : IntKind.i64.wrap ((k : Int) + 1) = k + 1 := IntWalk.i64_in _ (by omega)
      have ht1 : ((k : Int) + 1).toNat = k + 1 := by omega
      have HSUM := Lib.hid hsum
      clear hsum
      go_wp2_with fail
      go_quiet (fail)
      go_wp2_with fail
      go_ret
      exact ⟨_, rfl, by rw [ByteArray.size_append]; have := HSUM.out; omega, HS2.out.kept (row := none) (grownBy_drewN _ _ none) (by simp), grownBy_trans HG2.out (grownBy_drewN _ _ _)⟩
    · go_wp2_with fail
      go_ret
      exact ⟨_, rfl, by omega, HS2.out, HG2.out⟩
  · have q2 : (q == 0) = false := by simp; omega
    have q3 : (q == 1) = false := by simp; omega
    have q4 : (q == 2) = false := by simp; omega
    go_wp2_with fail
    go_ret
    exact ⟨_, rfl, by omega, HS2.out, HG2.out⟩

end Go.Proofs.YtnijdfdcjjbneaaDoor
