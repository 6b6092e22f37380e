import Derived.Test.YtpilkgcghlfdmaaGreatDoorVKeepOk
import Derived.Test.YtpilkgcghlfdmaaGreatDoorVSessC
import Derived.Test.YtpilkgcghlfdmaaGreatDoorM1
namespace Go.Proofs.YtpilkgcghlfdmaaGreatDoor
open Go.RowKit

theorem apply_any (B b base : Nat) (k i : Int) (p : ByteArray) (x1 x2 x3 x4 : Int) (a : Option Addr) (c : Nat) (xs : List Int) (w : World) (hb : w.heap[b]? = some (.cells (kcs 0 p x1 x2 x3 x4 (.slice a xs.length c)) 93 (0, 0))) (ho : OwnI w base (.slice a xs.length c) xs)
    (hne : ∀ g, Value.ownBlock (.slice a xs.length c) = some g → g ≠ b) (hB1 : B ≤ b) (hB2 : B ≤ base) (hl : (xs.length : Int) = x3) (hx : ∀ x ∈ xs, 0 ≤ x ∧ x ≤ 4) :
    Calls Tryz.prog 39 #[.pointer (some ⟨b, 0, none⟩), .agg #[.int .i64 k, .int .i64 i]] w (RetApply B b base w p x1 x2 x3 x4 (.slice a xs.length c) (apXs k i x3 xs) (apC k i x3 xs)) := by
  cases h : (isRecB k i && decide (i < x3)) with
  | false =>
    have e1 : apXs k i x3 xs = xs := by unfold apXs apOk; rw [h]; rfl
    have e2 : apC k i x3 xs = 2 := by unfold apC; rw [h]; rfl
    rw [e1, e2]
    exact apply_no B b base k i p x1 x2 x3 x4 _ xs w hb ho hne hB1 h
  | true =>
    have h' := h
    rw [Bool.and_eq_true] at h'
    obtain ⟨h1, h2⟩ := h'
    have h2 : i < x3 := by simpa using h2
    by_cases ht : nextS k (xs.getD i.toNat 0) = 0
    · have e1 : apXs k i x3 xs = xs := by unfold apXs apOk; rw [h, ht]; rfl
      have e2 : apC k i x3 xs = 5 := by unfold apC; rw [h, ht]; rfl
      rw [e1, e2]
      exact apply_st B b base k i p x1 x2 x3 x4 a c xs w hb ho hne hB1 h1 h2 hl hx ht
    · have h3 : (nextS k (xs.getD i.toNat 0) != 0) = true := by simpa using ht
      have e1 : apXs k i x3 xs = xs.set i.toNat (nextS k (xs.getD i.toNat 0)) := by unfold apXs apOk; rw [h, h3]; rfl
      have e2 : apC k i x3 xs = 0 := by unfold apC; rw [h, h3]; rfl
      rw [e1, e2]
      exact apply_ok B b base k i p x1 x2 x3 x4 a c xs w hb ho hne hB1 hB2 h1 h2 hl hx _ rfl h3

theorem apXs_len (k i x3 : Int) (xs : List Int) : (apXs k i x3 xs).length = xs.length := by unfold apXs; split <;> simp
theorem sess_parts {p : ByteArray} {x1 x2 x3 x4 : Int} {xs : List Int} (h : isSessB p x1 x2 x3 x4 xs = true) : isBatchB p x1 x2 x3 x4 = true ∧ (xs.length : Int) = x3 ∧ ∀ x ∈ xs, 0 ≤ x ∧ x ≤ 4 := by
  simp only [isSessB, Bool.and_eq_true, Bool.not_eq_true', bne_eq_false_iff_eq] at h
  exact ⟨h.1.1, h.1.2, fun x hx => inB_iff.1 (List.all_eq_true.1 h.2 x hx)⟩

/-- ApplyRecord's code -/
def arC (p : ByteArray) (x1 x2 x3 x4 : Int) (xs : List Int) (k i : Int) : Int := if isSessB p x1 x2 x3 x4 xs then apC k i x3 xs else 1
theorem apC_zero {k i x3 : Int} {xs : List Int} (h : apC k i x3 xs = 0) : apXs k i x3 xs = xs.set i.toNat (nextS k (xs.getD i.toNat 0)) := by
  unfold apC at h
  unfold apXs apOk
  cases h1 : (isRecB k i && decide (i < x3)) <;> simp only [h1, Bool.false_eq_true, if_false, if_true] at h ⊢
  · omega
  · cases h2 : (nextS k (xs.getD i.toNat 0) != 0)
    · rw [h2] at h; simp at h
    · simp

/-- what a session's new states and a code come to -/
def RetAr (w : World) (p : ByteArray) (x1 x2 x3 x4 : Int) (zs : List Int) (code : Int) : Ending → World → Prop := if code = 0 then RetSessC w p x1 x2 x3 x4 zs 0 else RetSessC w ⟨#[]⟩ 0 0 0 0 [] code

set_option maxHeartbeats 1000000 in
theorem applyRecord_any (p : ByteArray) (x1 x2 x3 x4 : Int) (a : Option Addr) (xs : List Int) (c : Nat) (k i : Int) (w : World) (hx : IntsAt w a xs) (hp : p.size ≤ maxLen) (lx : xs.length ≤ 1099511627776) (hs : Slc a xs) (ht : Tab w) :
    Calls Tryz.prog 18 #[.agg #[.string p, .int .i64 x1, .int .i64 x2, .int .i64 x3, .int .i64 x4, .slice a xs.length c], .agg #[.int .i64 k, .int .i64 i]] w (RetAr w p x1 x2 x3 x4 (apXs k i x3 xs) (arC p x1 x2 x3 x4 xs k i)) := by
  have HX := Lib.hid hx
  have HT := Lib.hid ht
  have HS := Lib.hid hs
  have HP := Lib.hid hp
  have HL := Lib.hid (show xs.length ≤ maxLen by unfold maxLen; omega)
  clear hx ht hs hp
  rcases Bool.eq_false_or_eq_true (isSessB p x1 x2 x3 x4 xs) with h1 | h1
  · have E : arC p x1 x2 x3 x4 xs k i = apC k i x3 xs := if_pos h1
    obtain ⟨s1, s2, s3⟩ := sess_parts h1
    rw [E]
    have H1 := Lib.hid h1
    have HS2 := Lib.hid s2
    have HS3 := Lib.hid s3
    clear h1 E s1 s2 s3
    obtain ⟨cd, hcd⟩ : ∃ cd, apC k i x3 xs = cd := ⟨_, rfl⟩
    rw [hcd]
    have HCD := Lib.hid hcd
    clear hcd
    by_cases hz : cd = 0
    · subst hz
      have hne : ((0 : Int) != 0) = false := rfl
      unfold RetAr
      rw [if_pos rfl]
      go_enter Tryz.func18, Tryz.ntmps18
      go_wp2_with fail
      refine (isSession_val H1.out (HX.out.below (ba3 _ _ _ _)) HP.out HL.out (((HT.out.alloc _).alloc _).alloc _)).mono ?_
      rintro e w1 ⟨rfl, hb1⟩
      obtain ⟨hA, hR, hZ, hF, hz1⟩ := box3s hb1
      have HB1 := Lib.hid (bt3 hb1)
      clear hb1
      go_wp2_with fail
      refine (keep_any p x1 x2 x3 x4 a xs c _ (HX.out.below HB1.out) lx HS.out).mono ?_
      rintro e w2 ⟨b, a2, c2, rfl, hk, ho, hwb, hne2, hb2⟩
      replace hR := boxK hb2 hR (by simp)
      replace hZ := boxK hb2 hZ (by simp)
      replace hF := freeK hb2 hF (by omega)
      have HB2 := Lib.hid (bt0 HB1.out hb2 (Nat.le_refl _))
      have hz2 : w.heap.size + 1 + 1 < w2.heap.size := by have := hb2.size; omega
      have HK := Lib.hid hk
      have HO := Lib.hid ho
      have HN := Lib.hid hne2
      clear hk ho hne2 hb2 hA
      go_wp2_with fail
      refine (apply_any w1.heap.size b w1.heap.size k i p x1 x2 x3 x4 a2 c2 xs w2 HK.out HO.out HN.out hwb (Nat.le_refl _) HS2.out HS3.out).mono ?_
      rw [HCD.out]
      rintro e w3 ⟨rfl, hk3, ho3, hb3⟩
      replace hZ := boxB hb3 hZ (by omega)
      replace hF := freeB hb3 hF (by omega)
      have HB3 := Lib.hid (HB2.out.trans (hb3.mono HB1.out.size))
      have hz3 : w.heap.size + 1 + 1 < w3.heap.size := by have := hb3.size; omega
      have hkc : ∀ j, w3.cell? ⟨b, j, none⟩ = (#[.int .i32 0, .int .u32 0, .string p, .int .i64 x1, .int .i64 x2, .int .i64 x3, .int .i64 x4, .slice a2 xs.length c2] : Array Value)[j]? := fun j => by simp [World.cell?, hk3, kcs]
      have HO3 := Lib.hid ho3
      have hbz : w.heap.size + 1 + 1 < b := by omega
      clear hk3 ho3 hb3 hR
      go_wp2_with fail
      refine bodyPost_ret (v := .tuple #[.agg #[.string p, .int .i64 x1, .int .i64 x2, .int .i64 x3, .int .i64 x4, .slice a2 xs.length c2], .int .i64 0]) (by simp [results, Tryz.results18, go_sem, hZ]) rfl ⟨a2, c2, by rw [apXs_len], ?_, ?_⟩
      · rw [apXs_len]
        refine OwnI.weak (base := w1.heap.size) ?_ (by omega)
        iterate 6 (refine OwnI.setOld ?_ (by dsimp only; omega) _)
        exact HO3.out
      · iterate 6 (refine Below.setCell ?_ (by dsimp only; omega) _)
        exact HB3.out
    · have hne : (cd != 0) = true := by simpa using hz
      unfold RetAr
      rw [if_neg hz]
      go_enter Tryz.func18, Tryz.ntmps18
      go_wp2_with fail
      refine (isSession_val H1.out (HX.out.below (ba3 _ _ _ _)) HP.out HL.out (((HT.out.alloc _).alloc _).alloc _)).mono ?_
      rintro e w1 ⟨rfl, hb1⟩
      obtain ⟨hA, hR, hZ, hF, hz1⟩ := box3s hb1
      have HB1 := Lib.hid (bt3 hb1)
      clear hb1
      go_wp2_with fail
      refine (keep_any p x1 x2 x3 x4 a xs c _ (HX.out.below HB1.out) lx HS.out).mono ?_
      rintro e w2 ⟨b, a2, c2, rfl, hk, ho, hwb, hne2, hb2⟩
      replace hR := boxK hb2 hR (by simp)
      replace hZ := boxK hb2 hZ (by simp)
      replace hF := freeK hb2 hF (by omega)
      have HB2 := Lib.hid (bt0 HB1.out hb2 (Nat.le_refl _))
      have hz2 : w.heap.size + 1 + 1 < w2.heap.size := by have := hb2.size; omega
      have HK := Lib.hid hk
      have HO := Lib.hid ho
      have HN := Lib.hid hne2
      clear hk ho hne2 hb2 hA
      go_wp2_with fail
      refine (apply_any w1.heap.size b w1.heap.size k i p x1 x2 x3 x4 a2 c2 xs w2 HK.out HO.out HN.out hwb (Nat.le_refl _) HS2.out HS3.out).mono ?_
      rw [HCD.out]
      rintro e w3 ⟨rfl, hk3, ho3, hb3⟩
      replace hZ := boxB hb3 hZ (by omega)
      replace hF := freeB hb3 hF (by omega)
      have HB3 := Lib.hid (HB2.out.trans (hb3.mono HB1.out.size))
      have hz3 : w.heap.size + 1 + 1 < w3.heap.size := by have := hb3.size; omega
      have hkc : ∀ j, w3.cell? ⟨b, j, none⟩ = (#[.int .i32 0, .int .u32 0, .string p, .int .i64 x1, .int .i64 x2, .int .i64 x3, .int .i64 x4, .slice a2 xs.length c2] : Array Value)[j]? := fun j => by simp [World.cell?, hk3, kcs]
      have HO3 := Lib.hid ho3
      have hbz : w.heap.size + 1 + 1 < b := by omega
      clear hk3 ho3 hb3 hR
      go_wp2_with fail
      refine bodyPost_ret (v := .tuple #[.agg #[.string ⟨#[]⟩, .int .i64 0, .int .i64 0, .int .i64 0, .int .i64 0, .slice none 0 0], .int .i64 cd]) (by simp [results, Tryz.results18, go_sem, hZ]) rfl ⟨Option.none, 0, rfl, World.ownsRow_nil _ _ _ _, ?_⟩
      iterate 6 (refine Below.setCell ?_ (by dsimp only; omega) _)
      exact HB3.out
  · have E : arC p x1 x2 x3 x4 xs k i = 1 := by unfold arC; rw [h1]; rfl
    rw [E]
    have H1 := Lib.hid h1
    clear h1 E
    unfold RetAr
    rw [if_neg (by decide)]
    go_enter Tryz.func18, Tryz.ntmps18
    go_wp2_with fail
    refine (isSession_val H1.out (HX.out.below (ba3 _ _ _ _)) HP.out HL.out (((HT.out.alloc _).alloc _).alloc _)).mono ?_
    rintro e w1 ⟨rfl, hb1⟩
    obtain ⟨hA, hR, hZ, hF, hz1⟩ := box3s hb1
    have HB1 := Lib.hid (bt3 hb1)
    clear hb1
    go_wp2_with fail
    refine bodyPost_ret (v := .tuple #[.agg #[.string ⟨#[]⟩, .int .i64 0, .int .i64 0, .int .i64 0, .int .i64 0, .slice none 0 0], .int .i64 1]) (by simp [results, Tryz.results18, go_sem, hZ]) rfl ⟨Option.none, 0, rfl, World.ownsRow_nil _ _ _ _, ?_⟩
    iterate 6 (refine Below.setCell ?_ (by dsimp only; omega) _)
    exact HB1.out

end Go.Proofs.YtpilkgcghlfdmaaGreatDoor
