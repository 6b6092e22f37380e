import Derived.Test.YthnjfdhijpfekaaUApD
namespace Go.Proofs.Ythnjfdhijpfekaa
open Go.RowKit

theorem blot_enter : ∀ (args : Array Value) (W : World), (callFunc 78 args).run Try.prog W = .ok (.enter 78 args) W := fun args W => by kernel_rfl
set_option maxRecDepth 100000 in
set_option maxHeartbeats 1000000 in
theorem blotApply_any (r c t w g : Int) (a : Option Addr) (xs : List Int) (cp n m : Nat) (W : World) (hd : dmOk 1 r c t w g = true) (hx : IntsAt W a xs) (hl : xs.length = n * m) (hN2 : n * m ≤ 40000) (hn : n ≤ 400) (hm : m ≤ 400) :
    Calls Try.prog 104 #[.agg #[.int .i64 1, .int .i64 r, .int .i64 c, .int .i64 t, .int .i64 w, .int .i64 g], .agg #[.int .i64 (n : Int), .int .i64 (m : Int), .slice a xs.length cp]] W (RetRas W n m (dmgL 1 r c t w g n m xs)) := by
  obtain ⟨_, hr, hc, ht, hw, hg, _⟩ := dm_bounds hd
  have HX := Lib.hid hx
  have HL := Lib.hid hl
  have hlen : xs.length ≤ 40000 := by omega
  have hmf := run_makeFunc'' Try.prog
  have HE : Hid (dmgL 1 r c t w g n m xs = pix (fun y x => if touchB 1 r c t w y x = true then g else xs.getD (y * m + x) 0) m (n * m)) := Lib.hid (by rw [dmgL_pix (by decide)]; rfl)
  clear hx hl hd
  go_enter Try.func104, Try.ntmps104
  go_wp2_with fail
  obtain ⟨q1, q2, q3⟩ := heap3 W (.cells #[.int .i64 1, .int .i64 r, .int .i64 c, .int .i64 t, .int .i64 w, .int .i64 g] 120 (0, 0)) (.cells #[.int .i64 (n : Int), .int .i64 (m : Int), .slice a xs.length cp] 28 (0, 0)) (.cells #[.int .i64 0, .int .i64 0, .slice none 0 0] 28 (0, 0))
  have HW := Lib.hid (ba3 W (.cells #[.int .i64 1, .int .i64 r, .int .i64 c, .int .i64 t, .int .i64 w, .int .i64 g] 120 (0, 0)) (.cells #[.int .i64 (n : Int), .int .i64 (m : Int), .slice a xs.length cp] 28 (0, 0)) (.cells #[.int .i64 0, .int .i64 0, .slice none 0 0] 28 (0, 0)))
  generalize ((W.alloc (.cells #[.int .i64 1, .int .i64 r, .int .i64 c, .int .i64 t, .int .i64 w, .int .i64 g] 120 (0, 0))).alloc (.cells #[.int .i64 (n : Int), .int .i64 (m : Int), .slice a xs.length cp] 28 (0, 0))).alloc (.cells #[.int .i64 0, .int .i64 0, .slice none 0 0] 28 (0, 0)) = w4 at *
  have HQ := Lib.hid q3
  clear q1 q2 q3
  refine (painted_any 78 (.agg #[.int .i64 1, .int .i64 r, .int .i64 c, .int .i64 t, .int .i64 w, .int .i64 g]) (fun y x => touchB 1 r c t w y x) a xs cp n m g _ (HX.out.below HW.out) HL.out hN2 hn hm blot_enter (fun W y x hy hx => blotTouches_val rfl hr hc ht ⟨by omega, by omega⟩ ⟨by omega, by omega⟩)).mono ?_
  rintro e w1 ⟨a1, c1, rfl, ho, hb1⟩
  obtain ⟨hc4, hf4⟩ := heap_cellR (blkK hb1 HQ.out)
  have HB1 := Lib.hid hb1
  have HO := Lib.hid ho
  have hs4 := blkLt HQ.out
  have hs1 := hb1.size
  clear hb1 ho hmf
  go_wp2_with fail
  refine bodyPost_ret (v := .agg #[.int .i64 (n : Int), .int .i64 (m : Int), .slice a1 (pix (fun y x => if touchB 1 r c t w y x = true then g else xs.getD (y * m + x) 0) m (n * m)).length c1]) (by simp [results, Try.results104, go_sem, hc4]) rfl ?_
  rw [HE.out]
  exact retRas_box HW.out HO.out HB1.out (by omega) (by omega) _ _ _

theorem scratch_enter : ∀ (args : Array Value) (W : World), (callFunc 79 args).run Try.prog W = .ok (.enter 79 args) W := fun args W => by kernel_rfl
set_option maxRecDepth 100000 in
set_option maxHeartbeats 1000000 in
theorem scratchApply_any (r c t w g : Int) (a : Option Addr) (xs : List Int) (cp n m : Nat) (W : World) (hd : dmOk 2 r c t w g = true) (hx : IntsAt W a xs) (hl : xs.length = n * m) (hN2 : n * m ≤ 40000) (hn : n ≤ 400) (hm : m ≤ 400) :
    Calls Try.prog 110 #[.agg #[.int .i64 2, .int .i64 r, .int .i64 c, .int .i64 t, .int .i64 w, .int .i64 g], .agg #[.int .i64 (n : Int), .int .i64 (m : Int), .slice a xs.length cp]] W (RetRas W n m (dmgL 2 r c t w g n m xs)) := by
  obtain ⟨_, hr, hc, ht, hw, hg, _⟩ := dm_bounds hd
  have HX := Lib.hid hx
  have HL := Lib.hid hl
  have hlen : xs.length ≤ 40000 := by omega
  have hmf := run_makeFunc'' Try.prog
  have HE : Hid (dmgL 2 r c t w g n m xs = pix (fun y x => if touchB 2 r c t w y x = true then g else xs.getD (y * m + x) 0) m (n * m)) := Lib.hid (by rw [dmgL_pix (by decide)]; rfl)
  clear hx hl hd
  go_enter Try.func110, Try.ntmps110
  go_wp2_with fail
  obtain ⟨q1, q2, q3⟩ := heap3 W (.cells #[.int .i64 2, .int .i64 r, .int .i64 c, .int .i64 t, .int .i64 w, .int .i64 g] 121 (0, 0)) (.cells #[.int .i64 (n : Int), .int .i64 (m : Int), .slice a xs.length cp] 28 (0, 0)) (.cells #[.int .i64 0, .int .i64 0, .slice none 0 0] 28 (0, 0))
  have HW := Lib.hid (ba3 W (.cells #[.int .i64 2, .int .i64 r, .int .i64 c, .int .i64 t, .int .i64 w, .int .i64 g] 121 (0, 0)) (.cells #[.int .i64 (n : Int), .int .i64 (m : Int), .slice a xs.length cp] 28 (0, 0)) (.cells #[.int .i64 0, .int .i64 0, .slice none 0 0] 28 (0, 0)))
  generalize ((W.alloc (.cells #[.int .i64 2, .int .i64 r, .int .i64 c, .int .i64 t, .int .i64 w, .int .i64 g] 121 (0, 0))).alloc (.cells #[.int .i64 (n : Int), .int .i64 (m : Int), .slice a xs.length cp] 28 (0, 0))).alloc (.cells #[.int .i64 0, .int .i64 0, .slice none 0 0] 28 (0, 0)) = w4 at *
  have HQ := Lib.hid q3
  clear q1 q2 q3
  refine (painted_any 79 (.agg #[.int .i64 2, .int .i64 r, .int .i64 c, .int .i64 t, .int .i64 w, .int .i64 g]) (fun y x => touchB 2 r c t w y x) a xs cp n m g _ (HX.out.below HW.out) HL.out hN2 hn hm scratch_enter (fun W y x hy hx => scratchTouches_val rfl hr hc ht hw)).mono ?_
  rintro e w1 ⟨a1, c1, rfl, ho, hb1⟩
  obtain ⟨hc4, hf4⟩ := heap_cellR (blkK hb1 HQ.out)
  have HB1 := Lib.hid hb1
  have HO := Lib.hid ho
  have hs4 := blkLt HQ.out
  have hs1 := hb1.size
  clear hb1 ho hmf
  go_wp2_with fail
  refine bodyPost_ret (v := .agg #[.int .i64 (n : Int), .int .i64 (m : Int), .slice a1 (pix (fun y x => if touchB 2 r c t w y x = true then g else xs.getD (y * m + x) 0) m (n * m)).length c1]) (by simp [results, Try.results110, go_sem, hc4]) rfl ?_
  rw [HE.out]
  exact retRas_box HW.out HO.out HB1.out (by omega) (by omega) _ _ _

theorem mul_bd {x y : Int} (h1 : 0 ≤ x) (h2 : x ≤ 400) (h3 : -400 ≤ y) (h4 : y ≤ 400) : -160000 ≤ x * y ∧ x * y ≤ 160000 := by
  have a : x * y ≤ x * 400 := Int.mul_le_mul_of_nonneg_left h4 h1
  have b : x * (-400) ≤ x * y := Int.mul_le_mul_of_nonneg_left h3 h1
  omega
theorem ediv_bd {a b : Int} (hb : 1 ≤ b) (h1 : -160000 ≤ a) (h2 : a ≤ 160000) : -160000 ≤ a / b ∧ a / b ≤ 160000 := by
  have h := Int.mul_ediv_add_emod a b
  have h3 := Int.emod_nonneg a (b := b) (by omega)
  have h4 := Int.emod_lt_of_pos a (b := b) (by omega)
  constructor
  · apply Int.le_ediv_of_mul_le (by omega)
    have : (-160000) * b ≤ (-160000) * 1 := Int.mul_le_mul_of_nonpos_left (by omega) (by omega)
    omega
  · rcases Int.le_total 0 a with h0 | h0
    · have := Int.ediv_le_self b h0
      omega
    · have : a / b ≤ 0 := Int.ediv_nonpos_of_nonpos_of_neg h0 (by omega)
      omega
set_option maxRecDepth 100000 in
set_option maxHeartbeats 600000 in
theorem skew1_val {r c t w g : Int} {a : Option Addr} {xs : List Int} {cp n m y x b1 b2 : Nat} {W : World} (h1 : ∀ i, W.cell? ⟨b1, i, none⟩ = (#[.int .i64 3, .int .i64 r, .int .i64 c, .int .i64 t, .int .i64 w, .int .i64 g] : Array Value)[i]?) (h2 : ∀ i, W.cell? ⟨b2, i, none⟩ = (#[.int .i64 (n : Int), .int .i64 (m : Int), .slice a xs.length cp] : Array Value)[i]?)
    (hx : IntsAt W a xs) (hl : xs.length = n * m) (hN2 : n * m ≤ 40000) (hn : n ≤ 400) (hm : m ≤ 400) (hy : y < n) (hxm : x < m) (ht1 : 1 ≤ t) (ht2 : t ≤ 400) (hw1 : -400 ≤ w) (hw2 : w ≤ 400) :
    Calls Try.prog 118 #[.int .i64 (y : Int), .int .i64 (x : Int), .pointer (some ⟨b1, 0, none⟩), .pointer (some ⟨b2, 0, none⟩)] W fun e W' => e = .returned (.int .i64 (dpix 3 r c t w g m xs y x)) ∧ Below W.heap.size W W' := by
  obtain ⟨s1, s2⟩ := mul_bd (x := (y : Int)) (y := w) (by omega) (by omega) hw1 hw2
  obtain ⟨z, hz⟩ : ∃ z, (y : Int) * w / t = z := ⟨_, rfl⟩
  obtain ⟨s3, s4⟩ := ediv_bd ht1 s1 s2
  have HZ := Lib.hid hz
  rw [hz] at s3 s4
  have HX := Lib.hid hx
  have HL := Lib.hid hl
  have hlen : xs.length ≤ 40000 := by omega
  clear hx hl hz
  have HD : Hid (dpix 3 r c t w g m xs y x = if inB ((x : Int) - z) 0 ((m : Int) - 1) = true then xs.getD (y * m + ((x : Int) - z).toNat) 0 else g) := Lib.hid (by rw [dpix, if_pos rfl, HZ.out])
  rcases Bool.eq_false_or_eq_true (inB ((x : Int) - z) 0 ((m : Int) - 1)) with h3 | h3
  · have h4 := inB_iff.1 h3
    have H3 := Lib.hid h3
    clear h3
    obtain ⟨q, hq⟩ : ∃ q : Nat, (x : Int) - z = q := Int.eq_ofNat_of_zero_le h4.1
    have hqm : q < m := by omega
    have HQ := Lib.hid hq
    clear hq h4
    have hi := pix_in hy hqm
    rw [← HL.out] at hi
    have HI := Lib.hid hi
    clear hi
    go_enter Try.func118, Try.ntmps118
    go_wp2_with fail
    refine (floorDiv_val HZ.out ht1 (by omega) (by omega) (by omega)).mono ?_
    rintro e w1 ⟨rfl, rfl⟩
    go_wp2_with fail
    refine (inRange_val H3.out).mono ?_
    rintro e w1 ⟨rfl, rfl⟩
    go_wp2_with fail
    rw [HQ.out]
    refine (pixel_val rfl (getD_at HI.out) HX.out (by omega) (by omega) (by omega)).mono ?_
    rintro e w2 ⟨rfl, hb2⟩
    have HB2 := Lib.hid hb2
    clear hb2
    go_wp2_with fail
    go_ret
    exact ⟨ret_int (by rw [HD.out, if_pos H3.out, HQ.out]; rfl), HB2.out⟩
  · have H3 := Lib.hid h3
    clear h3
    go_enter Try.func118, Try.ntmps118
    go_wp2_with fail
    refine (floorDiv_val HZ.out ht1 (by omega) (by omega) (by omega)).mono ?_
    rintro e w1 ⟨rfl, rfl⟩
    go_wp2_with fail
    refine (inRange_val H3.out).mono ?_
    rintro e w1 ⟨rfl, rfl⟩
    go_wp2_with fail
    go_ret
    exact ⟨ret_int (by rw [HD.out, if_neg (by rw [H3.out]; decide)]), Below.refl _ _⟩

set_option maxRecDepth 100000 in
set_option maxHeartbeats 600000 in
theorem fade1_val {r c t w g : Int} {a : Option Addr} {xs : List Int} {cp n m y x b1 b2 : Nat} {W : World} (h1 : ∀ i, W.cell? ⟨b1, i, none⟩ = (#[.int .i64 5, .int .i64 r, .int .i64 c, .int .i64 t, .int .i64 w, .int .i64 g] : Array Value)[i]?) (h2 : ∀ i, W.cell? ⟨b2, i, none⟩ = (#[.int .i64 (n : Int), .int .i64 (m : Int), .slice a xs.length cp] : Array Value)[i]?)
    (hx : IntsAt W a xs) (hl : xs.length = n * m) (hN2 : n * m ≤ 40000) (hn : n ≤ 400) (hm : m ≤ 400) (hy : y < n) (hxm : x < m) (ht1 : 0 ≤ t) (ht2 : t ≤ 256) (hg1 : 0 ≤ g) (hg2 : g ≤ 255) (hgr : Greys xs) :
    Calls Try.prog 128 #[.int .i64 (y : Int), .int .i64 (x : Int), .pointer (some ⟨b2, 0, none⟩), .pointer (some ⟨b1, 0, none⟩)] W fun e W' => e = .returned (.int .i64 (dpix 5 r c t w g m xs y x)) ∧ Below W.heap.size W W' := by
  have hi := pix_in hy hxm
  rw [← hl] at hi
  obtain ⟨v, hv⟩ : ∃ v, xs.getD (y * m + x) 0 = v := ⟨_, rfl⟩
  have hvb := getD_grey hgr (y * m + x)
  rw [hv] at hvb
  obtain ⟨s1, s2, s3, s4⟩ := fade_mid hvb ⟨ht1, ht2⟩ ⟨hg1, hg2⟩
  have HD : Hid (dpix 5 r c t w g m xs y x = (v * t + g * (256 - t)) / 256) := Lib.hid (by rw [dpix, if_neg (by decide), if_pos rfl, hv])
  have HZ := Lib.hid ((getD_at hi).trans (by rw [hv]))
  have HX := Lib.hid hx
  have l1 := boxLt h1 (by simp)
  have l2 := boxLt h2 (by simp)
  have hlen : xs.length ≤ 40000 := by omega
  clear hx hl hv hvb hi hgr
  go_enter Try.func128, Try.ntmps128
  go_wp2_with fail
  refine wp_region_ext (by kernel_rfl) (by kernel_rfl) ?_
  repeat (go_big_quiet_step ((go_at_call 71; go_must (apply calls_ext; exact pixel_val rfl HZ.out (HX.out.below (Ext.below _)) (by omega) (by omega) (by omega)))))
  refine wpQuiet_nil ?_
  rintro _ ⟨s, rfl⟩
  have HB := Lib.hid s.below
  go_wp2_with fail
  go_ret
  exact ⟨ret_int HD.out.symm, HB.out⟩

theorem skew1_enter : ∀ (args : Array Value) (W : World), (callFunc 118 args).run Try.prog W = .ok (.enter 118 args) W := fun args W => by kernel_rfl
set_option maxRecDepth 100000 in
set_option maxHeartbeats 1000000 in
theorem skewApply_any (r c t w g : Int) (a : Option Addr) (xs : List Int) (cp n m : Nat) (W : World) (hd : dmOk 3 r c t w g = true) (hx : IntsAt W a xs) (hl : xs.length = n * m) (hN2 : n * m ≤ 40000) (hn : n ≤ 400) (hm : m ≤ 400) :
    Calls Try.prog 114 #[.agg #[.int .i64 3, .int .i64 r, .int .i64 c, .int .i64 t, .int .i64 w, .int .i64 g], .agg #[.int .i64 (n : Int), .int .i64 (m : Int), .slice a xs.length cp]] W (RetRas W n m (dmgL 3 r c t w g n m xs)) := by
  obtain ⟨_, hr, hc, ht, hw, hg, hq3, hq5⟩ := dm_bounds hd
  have hq := hq3 rfl
  have HX := Lib.hid hx
  have HL := Lib.hid hl
  have hlen : xs.length ≤ 40000 := by omega
  have hmf := run_makeFunc'' Try.prog
  have HE : Hid (dmgL 3 r c t w g n m xs = pix (dpix 3 r c t w g m xs) m (n * m)) := Lib.hid (by rw [dmgL_pix (by decide)])
  clear hx hl hd hq3 hq5
  go_enter Try.func114, Try.ntmps114
  go_wp2_with fail
  obtain ⟨q1, q2, q3⟩ := heap3 W (.cells #[.int .i64 3, .int .i64 r, .int .i64 c, .int .i64 t, .int .i64 w, .int .i64 g] 122 (0, 0)) (.cells #[.int .i64 (n : Int), .int .i64 (m : Int), .slice a xs.length cp] 28 (0, 0)) (.cells #[.int .i64 0, .int .i64 0, .slice none 0 0] 28 (0, 0))
  have HW := Lib.hid (ba3 W (.cells #[.int .i64 3, .int .i64 r, .int .i64 c, .int .i64 t, .int .i64 w, .int .i64 g] 122 (0, 0)) (.cells #[.int .i64 (n : Int), .int .i64 (m : Int), .slice a xs.length cp] 28 (0, 0)) (.cells #[.int .i64 0, .int .i64 0, .slice none 0 0] 28 (0, 0)))
  generalize ((W.alloc (.cells #[.int .i64 3, .int .i64 r, .int .i64 c, .int .i64 t, .int .i64 w, .int .i64 g] 122 (0, 0))).alloc (.cells #[.int .i64 (n : Int), .int .i64 (m : Int), .slice a xs.length cp] 28 (0, 0))).alloc (.cells #[.int .i64 0, .int .i64 0, .slice none 0 0] 28 (0, 0)) = w4 at *
  have HQ := Lib.hid (And.intro q1 (And.intro q2 q3))
  clear q1 q2 q3
  refine (raster_any 118 #[] #[.pointer (some ⟨W.heap.size, 0, none⟩), .pointer (some ⟨W.heap.size + 1, 0, none⟩)] n m (n * m) (dpix 3 r c t w g m xs) _ rfl hN2 hn hm skew1_enter ?_).mono ?_
  · intro W' hb y x hy hx
    obtain ⟨q1, q2, q3⟩ := HQ.out
    exact skew1_val (heap_cellR (blkK hb q1)).1 (heap_cellR (blkK hb q2)).1 ((HX.out.below HW.out).below hb) HL.out hN2 hn hm hy hx hq ht.2 hw.1 hw.2
  rintro e w1 ⟨a1, c1, rfl, ho, hb1⟩
  obtain ⟨hc4, hf4⟩ := heap_cellR (blkK hb1 HQ.out.2.2)
  have HB1 := Lib.hid hb1
  have HO := Lib.hid ho
  have hs4 := blkLt HQ.out.2.2
  have hs1 := hb1.size
  clear hb1 ho hmf
  go_wp2_with fail
  refine bodyPost_ret (v := .agg #[.int .i64 (n : Int), .int .i64 (m : Int), .slice a1 (pix (dpix 3 r c t w g m xs) m (n * m)).length c1]) (by simp [results, Try.results114, go_sem, hc4]) rfl ?_
  rw [HE.out]
  exact retRas_box HW.out HO.out HB1.out (by omega) (by omega) _ _ _

theorem fade1_enter : ∀ (args : Array Value) (W : World), (callFunc 128 args).run Try.prog W = .ok (.enter 128 args) W := fun args W => by kernel_rfl
set_option maxRecDepth 100000 in
set_option maxHeartbeats 1000000 in
theorem fadeApply_any (r c t w g : Int) (a : Option Addr) (xs : List Int) (cp n m : Nat) (W : World) (hd : dmOk 5 r c t w g = true) (hx : IntsAt W a xs) (hl : xs.length = n * m) (hN2 : n * m ≤ 40000) (hn : n ≤ 400) (hm : m ≤ 400) (hgr : Greys xs) :
    Calls Try.prog 124 #[.agg #[.int .i64 5, .int .i64 r, .int .i64 c, .int .i64 t, .int .i64 w, .int .i64 g], .agg #[.int .i64 (n : Int), .int .i64 (m : Int), .slice a xs.length cp]] W (RetRas W n m (dmgL 5 r c t w g n m xs)) := by
  obtain ⟨_, hr, hc, ht, hw, hg, hq3, hq5⟩ := dm_bounds hd
  have hq := hq5 rfl
  have HX := Lib.hid hx
  have HL := Lib.hid hl
  have hlen : xs.length ≤ 40000 := by omega
  have hmf := run_makeFunc'' Try.prog
  have HE : Hid (dmgL 5 r c t w g n m xs = pix (dpix 5 r c t w g m xs) m (n * m)) := Lib.hid (by rw [dmgL_pix (by decide)])
  clear hx hl hd hq3 hq5
  go_enter Try.func124, Try.ntmps124
  go_wp2_with fail
  obtain ⟨q1, q2, q3⟩ := heap3 W (.cells #[.int .i64 5, .int .i64 r, .int .i64 c, .int .i64 t, .int .i64 w, .int .i64 g] 124 (0, 0)) (.cells #[.int .i64 (n : Int), .int .i64 (m : Int), .slice a xs.length cp] 28 (0, 0)) (.cells #[.int .i64 0, .int .i64 0, .slice none 0 0] 28 (0, 0))
  have HW := Lib.hid (ba3 W (.cells #[.int .i64 5, .int .i64 r, .int .i64 c, .int .i64 t, .int .i64 w, .int .i64 g] 124 (0, 0)) (.cells #[.int .i64 (n : Int), .int .i64 (m : Int), .slice a xs.length cp] 28 (0, 0)) (.cells #[.int .i64 0, .int .i64 0, .slice none 0 0] 28 (0, 0)))
  generalize ((W.alloc (.cells #[.int .i64 5, .int .i64 r, .int .i64 c, .int .i64 t, .int .i64 w, .int .i64 g] 124 (0, 0))).alloc (.cells #[.int .i64 (n : Int), .int .i64 (m : Int), .slice a xs.length cp] 28 (0, 0))).alloc (.cells #[.int .i64 0, .int .i64 0, .slice none 0 0] 28 (0, 0)) = w4 at *
  have HQ := Lib.hid (And.intro q1 (And.intro q2 q3))
  clear q1 q2 q3
  refine (raster_any 128 #[] #[.pointer (some ⟨W.heap.size + 1, 0, none⟩), .pointer (some ⟨W.heap.size, 0, none⟩)] n m (n * m) (dpix 5 r c t w g m xs) _ rfl hN2 hn hm fade1_enter ?_).mono ?_
  · intro W' hb y x hy hx
    obtain ⟨q1, q2, q3⟩ := HQ.out
    exact fade1_val (heap_cellR (blkK hb q1)).1 (heap_cellR (blkK hb q2)).1 ((HX.out.below HW.out).below hb) HL.out hN2 hn hm hy hx ht.1 hq hg.1 hg.2 hgr
  rintro e w1 ⟨a1, c1, rfl, ho, hb1⟩
  obtain ⟨hc4, hf4⟩ := heap_cellR (blkK hb1 HQ.out.2.2)
  have HB1 := Lib.hid hb1
  have HO := Lib.hid ho
  have hs4 := blkLt HQ.out.2.2
  have hs1 := hb1.size
  clear hb1 ho hmf
  go_wp2_with fail
  refine bodyPost_ret (v := .agg #[.int .i64 (n : Int), .int .i64 (m : Int), .slice a1 (pix (dpix 5 r c t w g m xs) m (n * m)).length c1]) (by simp [results, Try.results124, go_sem, hc4]) rfl ?_
  rw [HE.out]
  exact retRas_box HW.out HO.out HB1.out (by omega) (by omega) _ _ _

end Go.Proofs.Ythnjfdhijpfekaa
