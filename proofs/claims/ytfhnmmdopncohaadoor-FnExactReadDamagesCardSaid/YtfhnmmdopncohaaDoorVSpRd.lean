import Derived.Test.YtfhnmmdopncohaaDoorVSpT2
import Derived.Test.YtfhnmmdopncohaaDoorVRdD
namespace Go.Proofs.YtfhnmmdopncohaaDoor
open Go.RowKit

theorem spAll_app : ∀ (xs ys : List (List UInt8)), spAll (xs ++ ys) = match spAll xs with
    | none => none
    | some a => match spAll ys with | none => none | some b => some (a ++ b)
  | [], ys => by simp only [List.nil_append, spAll]; cases spAll ys <;> rfl
  | x :: xs, ys => by
    rw [List.cons_append, spAll, spAll_app xs ys, spAll]
    cases spOne (cut 32 x) with
    | none => rfl
    | some d =>
      cases spAll xs with
      | none => rfl
      | some a => cases spAll ys <;> rfl
theorem spAll_step {ss : List ByteArray} {k : Nat} {z : ByteArray} {ds : List Dm} {d : Dm} (hz : ss[k]? = some z) (h : spAll (bytesL (ss.take k)) = some ds) (hd : spOne (cut 32 z.data.toList) = some d) : spAll (bytesL (ss.take (k + 1))) = some (ds ++ [d]) := by
  rw [rdAll_take hz, spAll_app, h]
  simp only [spAll, hd]
theorem spAll_none {ss : List ByteArray} {k : Nat} {z : ByteArray} (hz : ss[k]? = some z) (hd : spOne (cut 32 z.data.toList) = none) : spAll (bytesL ss) = none := by
  have hlt : k < ss.length := (List.getElem?_eq_some_iff.1 hz).1
  have e : ss = ss.take (k + 1) ++ ss.drop (k + 1) := (List.take_append_drop _ _).symm
  have e2 : bytesL ss = bytesL (ss.take k) ++ [z.data.toList] ++ bytesL (ss.drop (k + 1)) := by
    rw [← rdAll_take hz]
    conv => lhs; rw [e]
    rw [bytesL, List.map_append]; rfl
  rw [e2, spAll_app, spAll_app]
  have e3 : spAll [z.data.toList] = none := by rw [spAll, hd]
  rw [e3]
  cases spAll (bytesL (ss.take k)) <;> rfl
theorem spAll_end {ss : List ByteArray} {k : Nat} {ds : List Dm} (hk : ss.length ≤ k) (h : spAll (bytesL (ss.take k)) = some ds) : spAll (bytesL ss) = some ds := by
  rw [List.take_of_length_le hk] at h; exact h


/-- the damages that the reference reads out of a text -/
def spS (s : ByteArray) : Option (List Dm) := if s.data.toList = [] then some [] else spText s.data.toList
theorem rdS_spS (s : ByteArray) : rdS s = spS s := by
  unfold rdS spS
  split
  · rfl
  · rename_i h; exact rd_sp _ h
theorem spText_no {s : List UInt8} {ss : List ByteArray} (hs : bytesL ss = cut 59 s) (h : spAll (bytesL ss) = none) : spText s = none := by
  unfold spText; rw [← hs, h]
theorem spText_eq {s : ByteArray} {ss : List ByteArray} {ds : List Dm} (hs : bytesL ss = cut 59 s.data.toList) (h : spAll (bytesL ss) = some ds) : spText s.data.toList = if dtB ds = s then some ds else none := by
  unfold spText; rw [← hs, h]
  simp only []
  by_cases he : dtext ds = s.data.toList
  · have e : dtB ds = s := by apply ByteArray.ext; apply Array.toList_inj.1; rw [dtB, ← he]
    rw [if_pos he, if_pos e]
  · have e : dtB ds ≠ s := fun e => he (by rw [← e, dtB])
    rw [if_neg he, if_neg e]
theorem str_ne' {a b : ByteArray} (h : a ≠ b) : (a.toList == b.toList) = false := by
  rw [Bool.eq_false_iff]
  intro e
  rw [beq_iff_eq, ByteArray.toList_eq, ByteArray.toList_eq] at e
  exact h (ByteArray.ext (Array.toList_inj.1 e))
theorem retRD_no {w w' : World} {o : Option (List Dm)} (h : o = none) (hb : Below w.heap.size w w') : RetRD w o (.returned (.tuple #[.slice none 0 0, .bool false])) w' := by
  subst h; exact ⟨hb, rfl⟩
theorem retRD_yes {w w' : World} {o : Option (List Dm)} {ds : List Dm} {a : Option Addr} {c : Nat} (h : o = some ds) (hb : Below w.heap.size w w') (ho : OwnD w' w.heap.size (.slice a ds.length c) ds) : RetRD w o (.returned (.tuple #[.slice a ds.length c, .bool true])) w' := by
  subst h; exact ⟨hb, a, c, rfl, ho⟩

set_option maxRecDepth 100000 in
set_option maxHeartbeats 1000000 in
theorem spReadDamages_any (s : ByteArray) (w : World) (hs : s.size ≤ 1048576) :
    Calls Tryd.prog 6 #[.string s] w (RetRD w (spS s)) := by
  by_cases h0 : s.data.toList = []
  · have e : s = ⟨#[]⟩ := by apply ByteArray.ext; apply Array.toList_inj.1; exact h0
    subst e
    have HS := Lib.hid (show spS ⟨#[]⟩ = some [] from rfl)
    clear h0
    go_enter Tryd.func6, Tryd.ntmps6
    go_wp2_with fail
    go_ret2
    exact retRD_yes (ds := []) HS.out (ba1 _ _) (OwnD.new w)
  have e0 : (s.toList == []) = false := word_ne h0
  have HS := Lib.hid (show spS s = spText s.data.toList by rw [spS, if_neg h0])
  clear h0
  go_enter Tryd.func6, Tryd.ntmps6
  go_wp2_with fail
  refine (l01Split_any s 59 _ hs).mono ?_
  rintro e w1 ⟨ss, a1, c1, hss, rfl, ho, hb1⟩
  have HSS := Lib.hid hss
  have HST := Lib.hid ho.strs
  have HB1 := Lib.hid hb1
  have hls : ∀ x ∈ ss, x.size ≤ 1048576 := fun x hx => Nat.le_trans ((cut_len 59 s.data.toList).2 _ (by rw [← hss]; exact List.mem_map.2 ⟨x, hx, rfl⟩)) hs
  have hbsl : ss.length ≤ 1048577 := by
    have h1 := congrArg List.length hss
    have h2 := (cut_len 59 s.data.toList).1
    have h3 : s.data.toList.length = s.size := rfl
    rw [bytesL, List.length_map] at h1
    omega
  have HLS := Lib.hid hls
  clear hss ho hb1 hls
  go_wp2_with fail
  go_loopw [5, 6, 7, 8] (fun v i _ _ wr => ∃ (k : Nat) (ds : List Dm), k ≤ ss.length ∧ i = .int .i64 k ∧ spAll (bytesL (ss.take k)) = some ds ∧ ds.length = k ∧ OwnD wr w1.heap.size v ds ∧ Below w1.heap.size w1 wr) (fun _ i _ _ _ => ss.length - (intOf i).toNat)
  case atStart => exact ⟨0, [], Nat.zero_le _, rfl, rfl, rfl, OwnD.new w1, ba1 _ _⟩
  case round =>
    obtain ⟨k, ds, hk, rfl, hall, hdl, ho, hb⟩ := hrel
    obtain ⟨a, c, rfl⟩ := ho.read
    have HA := Lib.hid hall
    have HO := Lib.hid ho
    have HB := Lib.hid hb
    have HDL := Lib.hid hdl
    have hbsz := hb.size
    clear hall hdl ho hb
    by_cases hlt : k < ss.length
    · obtain ⟨b1, o1, z, rfl, hzk, hb1, hc1⟩ := (HST.out.below HB.out).at hlt
      have hzs : z.size ≤ 1048576 := HLS.out z (List.mem_of_getElem? hzk)
      have HK := Lib.hid hzk
      clear hzk
      go_wp2_with fail
      refine (l27One_any z _ hzs).mono ?_
      rintro e w2 ⟨d, rfl, hd, hb2⟩
      have HB2 := Lib.hid (bt0 HB.out hb2 (Nat.le_refl _))
      have HO2 := Lib.hid (HO.out.grown hb2)
      have HD := Lib.hid hd
      have hb2s := hb2.size
      clear hd hb2 hc1
      cases hsp : spOne (cut 32 z.data.toList) with
      | none =>
        have HZ := Lib.hid (HS.out.trans (spText_no HSS.out (spAll_none HK.out hsp)))
        have e9 : (none : Option Dm).isSome = false := rfl
        rw [e9]
        clear hsp e9
        go_wp2_with fail
        go_ret2
        exact retRD_no HZ.out (HB1.out.trans ((bt0 HB2.out (ba1 _ _) (Nat.le_refl _)).mono HB1.out.size))
      | some d' =>
        obtain rfl := HD.out d' hsp
        have HA2 := Lib.hid (spAll_step HK.out HA.out hsp)
        have e9 : (some d : Option Dm).isSome = true := rfl
        rw [e9]
        have HO3 : Hid (OwnD ((w2.alloc (.cells #[.int .i64 d.k, .int .i64 d.r, .int .i64 d.c, .int .i64 d.t, .int .i64 d.w, .int .i64 d.g] 50 (0, 0))).alloc (.cells #[.int .i64 d.k, .int .i64 d.r, .int .i64 d.c, .int .i64 d.t, .int .i64 d.w, .int .i64 d.g] 50 (0, 0))) w1.heap.size (.slice a ds.length c) ds) := Lib.hid (HO2.out.grown (ba2 _ _ _))
        have HG3 := Lib.hid ((heap2 w2 (.cells #[.int .i64 d.k, .int .i64 d.r, .int .i64 d.c, .int .i64 d.t, .int .i64 d.w, .int .i64 d.g] 50 (0, 0)) (.cells #[.int .i64 d.k, .int .i64 d.r, .int .i64 d.c, .int .i64 d.t, .int .i64 d.w, .int .i64 d.g] 50 (0, 0))).2)
        have HM3 : Hid (w1.heap.size ≤ ((w2.alloc (.cells #[.int .i64 d.k, .int .i64 d.r, .int .i64 d.c, .int .i64 d.t, .int .i64 d.w, .int .i64 d.g] 50 (0, 0))).alloc (.cells #[.int .i64 d.k, .int .i64 d.r, .int .i64 d.c, .int .i64 d.t, .int .i64 d.w, .int .i64 d.g] 50 (0, 0))).heap.size) := Lib.hid (by simp; omega)
        clear hsp e9
        go_wp2_with (at_builtin; refine wpList_append_dm (o := _) (s := .tmp 31) (x := .tmp 33) ?h1 ?h2 w1.heap.size (.slice a ds.length c) ds d ?h3 ?h4 (w2.heap.size + 1) ?h5 ?h6 ?h7 ?h8 ?h9)
        case h1 => rfl
        case h2 => rfl
        case h3 => rfl
        case h4 => exact HO3.out
        case h5 => rfl
        case h6 => exact HG3.out
        case h7 => have := HDL.out; omega
        case h8 => exact HM3.out
        case h9 =>
          intro v' w9 hown3 hgrow3
          have HO9 := Lib.hid hown3
          have HB9 := Lib.hid ((bt0 HB2.out (ba2 _ _ _) (Nat.le_refl _)).trans (below_of_grownBy hgrow3 HM3.out (fun k' hk' => OwnD.at HO2.out k' hk')))
          clear hown3 hgrow3
          go_wp2_with fail
          exact ⟨⟨k + 1, ds ++ [d], by omega, by go_num, HA2.out, by simp [HDL.out], HO9.out, HB9.out⟩, by simp [intOf]; omega⟩
    · obtain rfl : k = ss.length := by omega
      have HE := Lib.hid (HS.out.trans (spText_eq HSS.out (spAll_end (Nat.le_refl _) HA.out)))
      have HL9 := Lib.hid (show ds.length ≤ 1099511627776 by have := HDL.out; omega)
      go_wp2_with fail
      refine (spDamagesText_any a ds c _ HO.out.dms HL9.out).mono ?_
      rintro e w2 ⟨rfl, hb2⟩
      have HB2 := Lib.hid (HB1.out.trans ((bt0 HB.out hb2 (Nat.le_refl _)).mono HB1.out.size))
      have HO2 := Lib.hid ((HO.out.grown hb2).weak HB1.out.size)
      clear hb2
      by_cases he : dtB ds = s
      · have e2 : ((dtB ds).toList == s.toList) = true := by rw [he]; simp
        have e3 : ((dtB ds).toList != s.toList) = false := by rw [bne, e2]; rfl
        have HR := Lib.hid (HE.out.trans (if_pos he))
        clear he
        go_wp2_with fail
        go_ret2
        exact retRD_yes HR.out HB2.out HO2.out
      · have e2 : ((dtB ds).toList == s.toList) = false := str_ne' he
        have e3 : ((dtB ds).toList != s.toList) = true := by rw [bne, e2]; rfl
        have HR := Lib.hid (HE.out.trans (if_neg he))
        clear he
        go_wp2_with fail
        go_ret2
        exact retRD_no HR.out HB2.out

end Go.Proofs.YtfhnmmdopncohaaDoor
