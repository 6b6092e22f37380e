import Derived.Test.YthnjfdhijpfekaaUApD3
import Derived.Test.YthnjfdhijpfekaaUIsDmg
namespace Go.Proofs.Ythnjfdhijpfekaa
open Go.RowKit

theorem methodApply1 (r c t w g : Int) (n : Nat) (W : World) : (method (n + 1) 120 (.agg #[.int .i64 1, .int .i64 r, .int .i64 c, .int .i64 t, .int .i64 w, .int .i64 g]) "loop.example/g00879/impl.apply").run Try.prog W = .ok (104, .agg #[.int .i64 1, .int .i64 r, .int .i64 c, .int .i64 t, .int .i64 w, .int .i64 g]) W := by kernel_rfl
set_option maxRecDepth 100000 in
set_option maxHeartbeats 1000000 in
theorem damaged1 (r c t w g : Int) (a : Option Addr) (xs : List Int) (cp n m : Nat) (W : World) (hd : dmOk 1 r c t w g = true) (hx : IntsAt W a xs) (hl : xs.length = n * m) (hN2 : n * m ≤ 40000) (hn : n ≤ 400) (hm : m ≤ 400) (_hN1 : 1 ≤ n * m) (_hgr : Greys xs) :
    Calls Try.prog 53 #[.agg #[.int .i64 1, .int .i64 r, .int .i64 c, .int .i64 t, .int .i64 w, .int .i64 g], .agg #[.int .i64 (n : Int), .int .i64 (m : Int), .slice a xs.length cp]] W (RetRas W n m (dmgL 1 r c t w g n m xs)) := by
  have hmt := methodApply1 r c t w g
  have HX := Lib.hid hx
  have HL := Lib.hid hl
  have HD := Lib.hid hd
  clear hx hl hd
  go_enter Try.func53, Try.ntmps53
  go_wp2_with fail
  obtain ⟨q1, q2, q3⟩ := heap3 W (.cells #[.int .i64 1, .int .i64 r, .int .i64 c, .int .i64 t, .int .i64 w, .int .i64 g] 32 (0, 0)) (.cells #[.int .i64 (n : Int), .int .i64 (m : Int), .slice a xs.length cp] 28 (0, 0)) (.cells #[.int .i64 0, .int .i64 0, .slice none 0 0] 28 (0, 0))
  have HW := Lib.hid (ba3 W (.cells #[.int .i64 1, .int .i64 r, .int .i64 c, .int .i64 t, .int .i64 w, .int .i64 g] 32 (0, 0)) (.cells #[.int .i64 (n : Int), .int .i64 (m : Int), .slice a xs.length cp] 28 (0, 0)) (.cells #[.int .i64 0, .int .i64 0, .slice none 0 0] 28 (0, 0)))
  generalize ((W.alloc (.cells #[.int .i64 1, .int .i64 r, .int .i64 c, .int .i64 t, .int .i64 w, .int .i64 g] 32 (0, 0))).alloc (.cells #[.int .i64 (n : Int), .int .i64 (m : Int), .slice a xs.length cp] 28 (0, 0))).alloc (.cells #[.int .i64 0, .int .i64 0, .slice none 0 0] 28 (0, 0)) = w4 at *
  refine (harm1 _ _ _ _ _ _).mono ?_
  rintro e w5 ⟨rfl, hb5⟩
  have HB5 := Lib.hid (bt0 HW.out hb5 (Nat.le_refl _))
  replace q2 := blkK hb5 q2
  replace q3 := blkK hb5 q3
  have hc2 := (heap_cellR q2).1
  have HQ := Lib.hid q3
  clear q1 q2 q3 hb5
  go_wp2_with fail
  refine (blotApply_any r c t w g a xs cp n m _ HD.out (HX.out.below HB5.out) HL.out hN2 hn hm).mono ?_
  rintro e w1 ⟨a1, c1, rfl, ho, hb1⟩
  obtain ⟨hc4, hf4⟩ := heap_cellR (blkK hb1 HQ.out)
  have HB1 := Lib.hid hb1
  have HO := Lib.hid ho
  have hs4 := blkLt HQ.out
  have hs1 := hb1.size
  clear hb1 ho hc2
  go_wp2_with fail
  exact bodyPost_ret (v := .agg #[.int .i64 (n : Int), .int .i64 (m : Int), .slice a1 (dmgL 1 r c t w g n m xs).length c1]) (by simp [results, Try.results53, go_sem, hc4]) rfl (retRas_box HB5.out HO.out HB1.out (by omega) (by omega) _ _ _)

theorem methodApply2 (r c t w g : Int) (n : Nat) (W : World) : (method (n + 1) 121 (.agg #[.int .i64 2, .int .i64 r, .int .i64 c, .int .i64 t, .int .i64 w, .int .i64 g]) "loop.example/g00879/impl.apply").run Try.prog W = .ok (110, .agg #[.int .i64 2, .int .i64 r, .int .i64 c, .int .i64 t, .int .i64 w, .int .i64 g]) W := by kernel_rfl
set_option maxRecDepth 100000 in
set_option maxHeartbeats 1000000 in
theorem damaged2 (r c t w g : Int) (a : Option Addr) (xs : List Int) (cp n m : Nat) (W : World) (hd : dmOk 2 r c t w g = true) (hx : IntsAt W a xs) (hl : xs.length = n * m) (hN2 : n * m ≤ 40000) (hn : n ≤ 400) (hm : m ≤ 400) (_hN1 : 1 ≤ n * m) (_hgr : Greys xs) :
    Calls Try.prog 53 #[.agg #[.int .i64 2, .int .i64 r, .int .i64 c, .int .i64 t, .int .i64 w, .int .i64 g], .agg #[.int .i64 (n : Int), .int .i64 (m : Int), .slice a xs.length cp]] W (RetRas W n m (dmgL 2 r c t w g n m xs)) := by
  have hmt := methodApply2 r c t w g
  have HX := Lib.hid hx
  have HL := Lib.hid hl
  have HD := Lib.hid hd
  clear hx hl hd
  go_enter Try.func53, Try.ntmps53
  go_wp2_with fail
  obtain ⟨q1, q2, q3⟩ := heap3 W (.cells #[.int .i64 2, .int .i64 r, .int .i64 c, .int .i64 t, .int .i64 w, .int .i64 g] 32 (0, 0)) (.cells #[.int .i64 (n : Int), .int .i64 (m : Int), .slice a xs.length cp] 28 (0, 0)) (.cells #[.int .i64 0, .int .i64 0, .slice none 0 0] 28 (0, 0))
  have HW := Lib.hid (ba3 W (.cells #[.int .i64 2, .int .i64 r, .int .i64 c, .int .i64 t, .int .i64 w, .int .i64 g] 32 (0, 0)) (.cells #[.int .i64 (n : Int), .int .i64 (m : Int), .slice a xs.length cp] 28 (0, 0)) (.cells #[.int .i64 0, .int .i64 0, .slice none 0 0] 28 (0, 0)))
  generalize ((W.alloc (.cells #[.int .i64 2, .int .i64 r, .int .i64 c, .int .i64 t, .int .i64 w, .int .i64 g] 32 (0, 0))).alloc (.cells #[.int .i64 (n : Int), .int .i64 (m : Int), .slice a xs.length cp] 28 (0, 0))).alloc (.cells #[.int .i64 0, .int .i64 0, .slice none 0 0] 28 (0, 0)) = w4 at *
  refine (harm2 _ _ _ _ _ _).mono ?_
  rintro e w5 ⟨rfl, hb5⟩
  have HB5 := Lib.hid (bt0 HW.out hb5 (Nat.le_refl _))
  replace q2 := blkK hb5 q2
  replace q3 := blkK hb5 q3
  have hc2 := (heap_cellR q2).1
  have HQ := Lib.hid q3
  clear q1 q2 q3 hb5
  go_wp2_with fail
  refine (scratchApply_any r c t w g a xs cp n m _ HD.out (HX.out.below HB5.out) HL.out hN2 hn hm).mono ?_
  rintro e w1 ⟨a1, c1, rfl, ho, hb1⟩
  obtain ⟨hc4, hf4⟩ := heap_cellR (blkK hb1 HQ.out)
  have HB1 := Lib.hid hb1
  have HO := Lib.hid ho
  have hs4 := blkLt HQ.out
  have hs1 := hb1.size
  clear hb1 ho hc2
  go_wp2_with fail
  exact bodyPost_ret (v := .agg #[.int .i64 (n : Int), .int .i64 (m : Int), .slice a1 (dmgL 2 r c t w g n m xs).length c1]) (by simp [results, Try.results53, go_sem, hc4]) rfl (retRas_box HB5.out HO.out HB1.out (by omega) (by omega) _ _ _)

theorem methodApply3 (r c t w g : Int) (n : Nat) (W : World) : (method (n + 1) 122 (.agg #[.int .i64 3, .int .i64 r, .int .i64 c, .int .i64 t, .int .i64 w, .int .i64 g]) "loop.example/g00879/impl.apply").run Try.prog W = .ok (114, .agg #[.int .i64 3, .int .i64 r, .int .i64 c, .int .i64 t, .int .i64 w, .int .i64 g]) W := by kernel_rfl
set_option maxRecDepth 100000 in
set_option maxHeartbeats 1000000 in
theorem damaged3 (r c t w g : Int) (a : Option Addr) (xs : List Int) (cp n m : Nat) (W : World) (hd : dmOk 3 r c t w g = true) (hx : IntsAt W a xs) (hl : xs.length = n * m) (hN2 : n * m ≤ 40000) (hn : n ≤ 400) (hm : m ≤ 400) (_hN1 : 1 ≤ n * m) (_hgr : Greys xs) :
    Calls Try.prog 53 #[.agg #[.int .i64 3, .int .i64 r, .int .i64 c, .int .i64 t, .int .i64 w, .int .i64 g], .agg #[.int .i64 (n : Int), .int .i64 (m : Int), .slice a xs.length cp]] W (RetRas W n m (dmgL 3 r c t w g n m xs)) := by
  have hmt := methodApply3 r c t w g
  have HX := Lib.hid hx
  have HL := Lib.hid hl
  have HD := Lib.hid hd
  clear hx hl hd
  go_enter Try.func53, Try.ntmps53
  go_wp2_with fail
  obtain ⟨q1, q2, q3⟩ := heap3 W (.cells #[.int .i64 3, .int .i64 r, .int .i64 c, .int .i64 t, .int .i64 w, .int .i64 g] 32 (0, 0)) (.cells #[.int .i64 (n : Int), .int .i64 (m : Int), .slice a xs.length cp] 28 (0, 0)) (.cells #[.int .i64 0, .int .i64 0, .slice none 0 0] 28 (0, 0))
  have HW := Lib.hid (ba3 W (.cells #[.int .i64 3, .int .i64 r, .int .i64 c, .int .i64 t, .int .i64 w, .int .i64 g] 32 (0, 0)) (.cells #[.int .i64 (n : Int), .int .i64 (m : Int), .slice a xs.length cp] 28 (0, 0)) (.cells #[.int .i64 0, .int .i64 0, .slice none 0 0] 28 (0, 0)))
  generalize ((W.alloc (.cells #[.int .i64 3, .int .i64 r, .int .i64 c, .int .i64 t, .int .i64 w, .int .i64 g] 32 (0, 0))).alloc (.cells #[.int .i64 (n : Int), .int .i64 (m : Int), .slice a xs.length cp] 28 (0, 0))).alloc (.cells #[.int .i64 0, .int .i64 0, .slice none 0 0] 28 (0, 0)) = w4 at *
  refine (harm3 _ _ _ _ _ _).mono ?_
  rintro e w5 ⟨rfl, hb5⟩
  have HB5 := Lib.hid (bt0 HW.out hb5 (Nat.le_refl _))
  replace q2 := blkK hb5 q2
  replace q3 := blkK hb5 q3
  have hc2 := (heap_cellR q2).1
  have HQ := Lib.hid q3
  clear q1 q2 q3 hb5
  go_wp2_with fail
  refine (skewApply_any r c t w g a xs cp n m _ HD.out (HX.out.below HB5.out) HL.out hN2 hn hm).mono ?_
  rintro e w1 ⟨a1, c1, rfl, ho, hb1⟩
  obtain ⟨hc4, hf4⟩ := heap_cellR (blkK hb1 HQ.out)
  have HB1 := Lib.hid hb1
  have HO := Lib.hid ho
  have hs4 := blkLt HQ.out
  have hs1 := hb1.size
  clear hb1 ho hc2
  go_wp2_with fail
  exact bodyPost_ret (v := .agg #[.int .i64 (n : Int), .int .i64 (m : Int), .slice a1 (dmgL 3 r c t w g n m xs).length c1]) (by simp [results, Try.results53, go_sem, hc4]) rfl (retRas_box HB5.out HO.out HB1.out (by omega) (by omega) _ _ _)

theorem methodApply4 (r c t w g : Int) (n : Nat) (W : World) : (method (n + 1) 123 (.agg #[.int .i64 4, .int .i64 r, .int .i64 c, .int .i64 t, .int .i64 w, .int .i64 g]) "loop.example/g00879/impl.apply").run Try.prog W = .ok (120, .agg #[.int .i64 4, .int .i64 r, .int .i64 c, .int .i64 t, .int .i64 w, .int .i64 g]) W := by kernel_rfl
set_option maxRecDepth 100000 in
set_option maxHeartbeats 1000000 in
theorem damaged4 (r c t w g : Int) (a : Option Addr) (xs : List Int) (cp n m : Nat) (W : World) (hd : dmOk 4 r c t w g = true) (hx : IntsAt W a xs) (hl : xs.length = n * m) (hN2 : n * m ≤ 40000) (hn : n ≤ 400) (hm : m ≤ 400) (_hN1 : 1 ≤ n * m) (_hgr : Greys xs) :
    Calls Try.prog 53 #[.agg #[.int .i64 4, .int .i64 r, .int .i64 c, .int .i64 t, .int .i64 w, .int .i64 g], .agg #[.int .i64 (n : Int), .int .i64 (m : Int), .slice a xs.length cp]] W (RetRas W n m (dmgL 4 r c t w g n m xs)) := by
  have hmt := methodApply4 r c t w g
  have HX := Lib.hid hx
  have HL := Lib.hid hl
  have HD := Lib.hid hd
  clear hx hl hd
  go_enter Try.func53, Try.ntmps53
  go_wp2_with fail
  obtain ⟨q1, q2, q3⟩ := heap3 W (.cells #[.int .i64 4, .int .i64 r, .int .i64 c, .int .i64 t, .int .i64 w, .int .i64 g] 32 (0, 0)) (.cells #[.int .i64 (n : Int), .int .i64 (m : Int), .slice a xs.length cp] 28 (0, 0)) (.cells #[.int .i64 0, .int .i64 0, .slice none 0 0] 28 (0, 0))
  have HW := Lib.hid (ba3 W (.cells #[.int .i64 4, .int .i64 r, .int .i64 c, .int .i64 t, .int .i64 w, .int .i64 g] 32 (0, 0)) (.cells #[.int .i64 (n : Int), .int .i64 (m : Int), .slice a xs.length cp] 28 (0, 0)) (.cells #[.int .i64 0, .int .i64 0, .slice none 0 0] 28 (0, 0)))
  generalize ((W.alloc (.cells #[.int .i64 4, .int .i64 r, .int .i64 c, .int .i64 t, .int .i64 w, .int .i64 g] 32 (0, 0))).alloc (.cells #[.int .i64 (n : Int), .int .i64 (m : Int), .slice a xs.length cp] 28 (0, 0))).alloc (.cells #[.int .i64 0, .int .i64 0, .slice none 0 0] 28 (0, 0)) = w4 at *
  refine (harm4 _ _ _ _ _ _).mono ?_
  rintro e w5 ⟨rfl, hb5⟩
  have HB5 := Lib.hid (bt0 HW.out hb5 (Nat.le_refl _))
  replace q2 := blkK hb5 q2
  replace q3 := blkK hb5 q3
  have hc2 := (heap_cellR q2).1
  have HQ := Lib.hid q3
  clear q1 q2 q3 hb5
  go_wp2_with fail
  refine (noiseApply_any r c t w g a xs cp n m _ HD.out (HX.out.below HB5.out) HL.out hN2 hn hm _hN1).mono ?_
  rintro e w1 ⟨a1, c1, rfl, ho, hb1⟩
  obtain ⟨hc4, hf4⟩ := heap_cellR (blkK hb1 HQ.out)
  have HB1 := Lib.hid hb1
  have HO := Lib.hid ho
  have hs4 := blkLt HQ.out
  have hs1 := hb1.size
  clear hb1 ho hc2
  go_wp2_with fail
  exact bodyPost_ret (v := .agg #[.int .i64 (n : Int), .int .i64 (m : Int), .slice a1 (dmgL 4 r c t w g n m xs).length c1]) (by simp [results, Try.results53, go_sem, hc4]) rfl (retRas_box HB5.out HO.out HB1.out (by omega) (by omega) _ _ _)

theorem methodApply5 (r c t w g : Int) (n : Nat) (W : World) : (method (n + 1) 124 (.agg #[.int .i64 5, .int .i64 r, .int .i64 c, .int .i64 t, .int .i64 w, .int .i64 g]) "loop.example/g00879/impl.apply").run Try.prog W = .ok (124, .agg #[.int .i64 5, .int .i64 r, .int .i64 c, .int .i64 t, .int .i64 w, .int .i64 g]) W := by kernel_rfl
set_option maxRecDepth 100000 in
set_option maxHeartbeats 1000000 in
theorem damaged5 (r c t w g : Int) (a : Option Addr) (xs : List Int) (cp n m : Nat) (W : World) (hd : dmOk 5 r c t w g = true) (hx : IntsAt W a xs) (hl : xs.length = n * m) (hN2 : n * m ≤ 40000) (hn : n ≤ 400) (hm : m ≤ 400) (_hN1 : 1 ≤ n * m) (_hgr : Greys xs) :
    Calls Try.prog 53 #[.agg #[.int .i64 5, .int .i64 r, .int .i64 c, .int .i64 t, .int .i64 w, .int .i64 g], .agg #[.int .i64 (n : Int), .int .i64 (m : Int), .slice a xs.length cp]] W (RetRas W n m (dmgL 5 r c t w g n m xs)) := by
  have hmt := methodApply5 r c t w g
  have HX := Lib.hid hx
  have HL := Lib.hid hl
  have HD := Lib.hid hd
  clear hx hl hd
  go_enter Try.func53, Try.ntmps53
  go_wp2_with fail
  obtain ⟨q1, q2, q3⟩ := heap3 W (.cells #[.int .i64 5, .int .i64 r, .int .i64 c, .int .i64 t, .int .i64 w, .int .i64 g] 32 (0, 0)) (.cells #[.int .i64 (n : Int), .int .i64 (m : Int), .slice a xs.length cp] 28 (0, 0)) (.cells #[.int .i64 0, .int .i64 0, .slice none 0 0] 28 (0, 0))
  have HW := Lib.hid (ba3 W (.cells #[.int .i64 5, .int .i64 r, .int .i64 c, .int .i64 t, .int .i64 w, .int .i64 g] 32 (0, 0)) (.cells #[.int .i64 (n : Int), .int .i64 (m : Int), .slice a xs.length cp] 28 (0, 0)) (.cells #[.int .i64 0, .int .i64 0, .slice none 0 0] 28 (0, 0)))
  generalize ((W.alloc (.cells #[.int .i64 5, .int .i64 r, .int .i64 c, .int .i64 t, .int .i64 w, .int .i64 g] 32 (0, 0))).alloc (.cells #[.int .i64 (n : Int), .int .i64 (m : Int), .slice a xs.length cp] 28 (0, 0))).alloc (.cells #[.int .i64 0, .int .i64 0, .slice none 0 0] 28 (0, 0)) = w4 at *
  refine (harm5 _ _ _ _ _ _).mono ?_
  rintro e w5 ⟨rfl, hb5⟩
  have HB5 := Lib.hid (bt0 HW.out hb5 (Nat.le_refl _))
  replace q2 := blkK hb5 q2
  replace q3 := blkK hb5 q3
  have hc2 := (heap_cellR q2).1
  have HQ := Lib.hid q3
  clear q1 q2 q3 hb5
  go_wp2_with fail
  refine (fadeApply_any r c t w g a xs cp n m _ HD.out (HX.out.below HB5.out) HL.out hN2 hn hm _hgr).mono ?_
  rintro e w1 ⟨a1, c1, rfl, ho, hb1⟩
  obtain ⟨hc4, hf4⟩ := heap_cellR (blkK hb1 HQ.out)
  have HB1 := Lib.hid hb1
  have HO := Lib.hid ho
  have hs4 := blkLt HQ.out
  have hs1 := hb1.size
  clear hb1 ho hc2
  go_wp2_with fail
  exact bodyPost_ret (v := .agg #[.int .i64 (n : Int), .int .i64 (m : Int), .slice a1 (dmgL 5 r c t w g n m xs).length c1]) (by simp [results, Try.results53, go_sem, hc4]) rfl (retRas_box HB5.out HO.out HB1.out (by omega) (by omega) _ _ _)

theorem damaged_any (k r c t w g : Int) (a : Option Addr) (xs : List Int) (cp n m : Nat) (W : World) (hd : dmOk k r c t w g = true) (hx : IntsAt W a xs) (hl : xs.length = n * m) (hN2 : n * m ≤ 40000) (hn : n ≤ 400) (hm : m ≤ 400) (hN1 : 1 ≤ n * m) (hgr : Greys xs) :
    Calls Try.prog 53 #[.agg #[.int .i64 k, .int .i64 r, .int .i64 c, .int .i64 t, .int .i64 w, .int .i64 g], .agg #[.int .i64 (n : Int), .int .i64 (m : Int), .slice a xs.length cp]] W (RetRas W n m (dmgL k r c t w g n m xs)) := by
  rcases five_or k with rfl | rfl | rfl | rfl | rfl | h
  · exact damaged1 _ _ _ _ _ _ _ _ _ _ _ hd hx hl hN2 hn hm hN1 hgr
  · exact damaged2 _ _ _ _ _ _ _ _ _ _ _ hd hx hl hN2 hn hm hN1 hgr
  · exact damaged3 _ _ _ _ _ _ _ _ _ _ _ hd hx hl hN2 hn hm hN1 hgr
  · exact damaged4 _ _ _ _ _ _ _ _ _ _ _ hd hx hl hN2 hn hm hN1 hgr
  · exact damaged5 _ _ _ _ _ _ _ _ _ _ _ hd hx hl hN2 hn hm hN1 hgr
  · have := dm_bounds hd; omega

end Go.Proofs.Ythnjfdhijpfekaa
