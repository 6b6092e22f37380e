import Derived.Test.YtlcglclojlffgaaGreatDoorL8
import Derived.Test.YtlcglclojlffgaaGreatDoorL7
import Derived.Test.YtlcglclojlffgaaGreatDoorL4
import Derived.Test.YtlcglclojlffgaaGreatDoorL0
import Derived.Test.YtlcglclojlffgaaGreatDoorL6
namespace Go.Proofs.YtlcglclojlffgaaGreatDoor
open Go.RowKit

theorem wpList_append_it {ops : Array Oper} {rest : List Oper} {o : Oper} {a : Act} {Q : Exit → Act → World → Prop} {W : World} (hgd : o.guard = none) (s x : Operand)
    (ho : o.op = .call { callee := .builtin .append, args := #[s, x], argTypes := #[27, 27] })
    (base : Nat) (v : Value) (xs : List It) (y : It) (hs : a.eval s = v) (hown : itE.Own W base v xs) (g : Nat) (hx : a.eval x = .slice (some ⟨g, 0, none⟩) 1 1)
    (hg : W.heap[g]? = some (.cells #[.int .i64 y.kind, .int .i64 y.row, .int .i64 y.col, .int .i64 y.scale, .int .i64 y.tall, .int .i64 y.wide, .string y.name, .int .i64 y.level, .string y.text] 49 (0, 0))) (hl : xs.length ≤ 1000000000) (hb : base ≤ W.heap.size)
    (h : ∀ a' c' xs' w', xs' = xs ++ [y] → itE.Own w' base (.slice a' xs'.length c') xs' → W.grownBy w' v.ownBlock → Below base W w' → wpList Tryz.prog ops Q rest (a.put o.dst (.slice a' xs'.length c')) w') : wpList Tryz.prog ops Q (o :: rest) a W := by
  obtain ⟨i0, hi, y0, y1, y2⟩ := info_parts infoIt
  exact wpList_append_e itE hgd s x _ ho Tryz.underlying27 i0 _ hi y0 y1 y2 rfl (by decide) base v xs y hs hown g _ hx hg rfl hl hb h
/-- what ReadLabel answers -/
def RetLR (w : World) (o : Option Lb) (e : Ending) (w' : World) : Prop :=
  Below w.heap.size w w' ∧ ((o = none ∧ e = .returned (.tuple #[.agg #[.int .i64 0, .int .i64 0, .slice none 0 0], .bool false])) ∨
    ∃ l v, o = some l ∧ e = .returned (.tuple #[.agg #[.int .i64 l.rows, .int .i64 l.cols, v], .bool true]) ∧ itE.Own w' w.heap.size v l.items)
/-- what a text of lines is read as -/
def labM (h : List UInt8) (mid : List (List UInt8)) (last : List UInt8) : Option Lb :=
  if mid.length ≤ 12 ∧ last = [] then
    match cut 32 h with
    | [h, a, b] => if h = wLab then (match rdec a, rdec b, allO itemI mid with | some x, some y, some xs => some ⟨x, y, xs⟩ | _, _, _ => none) else none
    | _ => none
  else none
theorem labI_parts {s h l : List UInt8} {mid : List (List UInt8)} (he : h :: (mid ++ [l]) = cutN 10 14 s) : labI s = labM h mid l := by
  have e1 : (h :: (mid ++ [l])).length = mid.length + 2 := by simp
  have e2 : (h :: (mid ++ [l])).getLast? = some l := by simp [List.getLast?_cons]
  have e3 : ((h :: (mid ++ [l])).drop 1).dropLast = mid := by simp
  rw [labI, ← he, labM, e1, e2, e3, itemsI_all]
  by_cases h1 : mid.length ≤ 12 ∧ l = []
  · rw [if_pos h1, if_pos ⟨by omega, by omega, by rw [h1.2]⟩]; rfl
  · rw [if_neg h1, if_neg (fun hh => h1 ⟨by omega, by have := hh.2.2; simpa using this⟩)]
theorem labI_short {s : List UInt8} (h : (cutN 10 14 s).length < 2) : labI s = none := by
  rw [labI, if_neg (by omega)]
theorem labI_long {s : List UInt8} (h : 14 < (cutN 10 14 s).length) : labI s = none := by
  rw [labI, if_neg (by omega)]
theorem rdLab_none {s : List UInt8} (h : labI s = none) : rdLab s = none := by rw [rdLab, h]; rfl
theorem rdLab_some {s : List UInt8} {l : Lb} (h : labI s = some l) : rdLab s = if l.ok = true ∧ textL l = s then some l else none := by
  rw [rdLab, h, Option.filter]
  by_cases h1 : l.ok = true ∧ textL l = s
  · rw [if_pos h1, if_pos (by simp [h1.1, h1.2])]
  · rw [if_neg h1, if_neg (by simpa using h1)]

set_option maxRecDepth 100000 in
set_option maxHeartbeats 4000000 in
theorem readLabel_any (s : ByteArray) (w : World) (hs : s.size ≤ 1048576) (hE : Env w) :
    Calls Tryz.prog 13 #[.string s] w (RetLR w (rdLab s.data.toList)) := by
  have HE := Lib.hid hE
  clear hE
  obtain ⟨O, hO⟩ : ∃ O, O = rdLab s.data.toList := ⟨_, rfl⟩
  have HO := Lib.hid hO
  rw [← hO]
  clear hO
  have K0 := Lib.hid (push_at w (.cells #[.int .i64 0, .int .i64 0, .slice none 0 0] 29 (0, 0)))
  have HB0 := Lib.hid (ba1 w (.cells #[.int .i64 0, .int .i64 0, .slice none 0 0] 29 (0, 0)))
  go_enter Tryz.func13, Tryz.ntmps13
  go_wp2_with fail
  refine (splitN_any s 10 15 _ hs (by omega) (by omega) (HE.out.next HB0.out)).mono ?_
  rintro e w1 ⟨ss, cp, hss, rfl, hst, hb1, hcp⟩
  obtain ⟨B, hB⟩ : ∃ B, (w.alloc (.cells #[.int .i64 0, .int .i64 0, .slice none 0 0] 29 (0, 0))).heap.size = B := ⟨_, rfl⟩
  rw [hB] at hst ⊢
  have hBs : w.heap.size < B := by rw [← hB]; simp
  have HSS := Lib.hid hss
  have HST := Lib.hid hst
  have HB1 := Lib.hid (bt0 HB0.out hb1 (Nat.le_refl _))
  have K1 := Lib.hid (blkK hb1 K0.out)
  have HLZ := Lib.hid (show ∀ z ∈ ss, z.size ≤ 1048576 from fun z hz => Nat.le_trans ((cutN_len 10 14 s.data.toList).2.2 _ (by rw [← hss]; exact List.mem_map.2 ⟨z, hz, rfl⟩)) hs)
  have hlen := congrArg List.length hss
  rw [bytesL, List.length_map] at hlen
  have HLN := Lib.hid hlen
  have h15 : ss.length ≤ 15 := by rw [hlen]; exact (cutN_len 10 14 _).1
  clear hss hst hb1 hlen hB
  obtain ⟨hc1, hf1⟩ := heap_cellR K1.out
  have hlt1 := blkLt K1.out
  by_cases h2 : ss.length < 2
  · have h2i : (ss.length : Int) < 2 := by omega
    have HN := Lib.hid (HO.out.trans (rdLab_none (labI_short (by rw [← HLN.out]; exact h2))))
    go_wp2_with fail
    refine bodyPost_ret (v := .tuple #[.agg #[.int .i64 0, .int .i64 0, .slice none 0 0], .bool false]) (by simp [results, Tryz.results13, go_sem, hc1]) rfl ⟨?_, .inl ⟨HN.out, rfl⟩⟩
    iterate 3 (refine Below.setCell ?_ (by dsimp only; omega) _)
    exact HB1.out
  have h2i : ¬ (ss.length : Int) < 2 := by omega
  by_cases h14 : 14 < ss.length
  · have h14i : (14 : Int) < (ss.length : Int) := by omega
    have HN := Lib.hid (HO.out.trans (rdLab_none (labI_long (by rw [← HLN.out]; exact h14))))
    go_wp2_with fail
    refine bodyPost_ret (v := .tuple #[.agg #[.int .i64 0, .int .i64 0, .slice none 0 0], .bool false]) (by simp [results, Tryz.results13, go_sem, hc1]) rfl ⟨?_, .inl ⟨HN.out, rfl⟩⟩
    iterate 3 (refine Below.setCell ?_ (by dsimp only; omega) _)
    exact HB1.out
  obtain ⟨h0, mid, L, rfl⟩ : ∃ h0 mid L, ss = h0 :: (mid ++ [L]) := by
    cases ss with
    | nil => simp at h2
    | cons h0 r =>
      have hr : r ≠ [] := fun e => by subst e; simp at h2
      exact ⟨h0, r.dropLast, r.getLast hr, by rw [List.dropLast_concat_getLast]⟩
  have HM := Lib.hid (labI_parts (h := h0.data.toList) (mid := bytesL mid) (l := L.data.toList) (by rw [← HSS.out]; simp [bytesL]))
  obtain ⟨m, hm⟩ : ∃ m, mid.length = m := ⟨_, rfl⟩
  have hml : (h0 :: (mid ++ [L])).length = m + 2 := by simp [hm]
  have HMM := Lib.hid hm
  have hm12 : m ≤ 12 := by omega
  have hcL : w1.cell? ⟨B, m + 1, none⟩ = some (.string L) := by
    obtain ⟨b0, o0, z, e0, hz, -, hc⟩ := HST.out.at (k := m + 1) (by omega)
    simp only [Option.some.injEq, Addr.mk.injEq, and_true] at e0
    obtain ⟨rfl, rfl⟩ := e0
    rw [Nat.zero_add] at hc
    rw [hc]
    rw [List.getElem?_cons_succ, List.getElem?_append_right (by omega), hm, Nat.sub_self] at hz
    rw [Option.some.inj hz]
  have hch : w1.cell? ⟨B, 0, none⟩ = some (.string h0) := by
    obtain ⟨b0, o0, e0, hc⟩ := HST.out 0 (by omega)
    simp only [Option.some.injEq, Addr.mk.injEq, and_true] at e0
    obtain ⟨rfl, rfl⟩ := e0
    exact hc
  have hlB : B < w1.heap.size := lt_of_cell hch
  have hcp2 : m + 2 ≤ cp := by omega
  rw [hml]
  have h2i : ¬ (m : Int) + 2 < 2 := by omega
  have h14i : ¬ (14 : Int) < (m : Int) + 2 := by omega
  clear h2 h14 h15 hm hml hcp
  by_cases hL : L.data.toList = []
  rotate_left
  · have hLi : L.toList.isEmpty = false := by
      rw [ByteArray.toList_eq, Bool.eq_false_iff, ne_eq, List.isEmpty_iff]; exact hL
    have HN := Lib.hid (HO.out.trans (rdLab_none (HM.out.trans (by rw [labM, if_neg (fun hh => hL hh.2)]))))
    clear hL
    go_wp2_with fail
    refine bodyPost_ret (v := .tuple #[.agg #[.int .i64 0, .int .i64 0, .slice none 0 0], .bool false]) (by simp [results, Tryz.results13, go_sem, hc1]) rfl ⟨?_, .inl ⟨HN.out, rfl⟩⟩
    iterate 3 (refine Below.setCell ?_ (by dsimp only; omega) _)
    exact HB1.out
  have hLi : L.toList.isEmpty = true := by
    rw [ByteArray.toList_eq, List.isEmpty_iff]; exact hL
  have HLe := Lib.hid (show mid.length ≤ 12 ∧ L.data.toList = [] from ⟨by rw [HMM.out]; exact hm12, hL⟩)
  have hh0 : h0.size ≤ 1048576 := HLZ.out h0 (by simp)
  clear hL hc1 hf1
  go_wp2_with fail
  refine (split_any h0 32 _ hh0 (HE.out.next HB1.out)).mono ?_
  rintro e w2 ⟨hs2, hhs, -, hhz, rfl, hw2⟩
  have hb2 : Below w1.heap.size w1 w2 := by rw [hw2]; exact ba1 _ _
  have HH := Lib.hid hhs
  have HHZ := Lib.hid hhz
  have HB2 := Lib.hid (bt0 HB1.out hb2 (Nat.le_refl _))
  have K2 := Lib.hid (blkK hb2 K1.out)
  have HST2 := Lib.hid (HST.out.below hb2)
  have HHS := Lib.hid (show StrsAt w2 (some ⟨w1.heap.size, 0, none⟩) hs2 by rw [hw2]; exact strs_new w1 hs2 _)
  clear hhs hhz hw2 hb2 hcL hch
  obtain ⟨hc2, hf2⟩ := heap_cellR K2.out
  have hlt2 := blkLt K2.out
  have hne : hs2 ≠ [] := fun e => by have h := HH.out; rw [e] at h; exact cut_ne 32 _ h.symm
  by_cases h3 : hs2.length = 3
  rotate_left
  · have h3i : ((hs2.length : Int) != 3) = true := by simp; omega
    have HN := Lib.hid (HO.out.trans (rdLab_none (HM.out.trans (by
      rw [labM]
      split
      · split
        · next he => rw [← HH.out] at he; have := congrArg List.length he; rw [bytesL, List.length_map] at this; exact absurd this h3
        · rfl
      · rfl))))
    clear h3 hne
    go_wp2_with fail
    refine bodyPost_ret (v := .tuple #[.agg #[.int .i64 0, .int .i64 0, .slice none 0 0], .bool false]) (by simp [results, Tryz.results13, go_sem, hc2]) rfl ⟨?_, .inl ⟨HN.out, rfl⟩⟩
    iterate 3 (refine Below.setCell ?_ (by dsimp only; omega) _)
    exact HB2.out
  obtain ⟨q0, q1, q2, rfl⟩ : ∃ q0 q1 q2, hs2 = [q0, q1, q2] := by
    match hs2, h3 with
    | [q0, q1, q2], _ => exact ⟨q0, q1, q2, rfl⟩
  have hq0 : w2.cell? ⟨w1.heap.size, 0, none⟩ = some (.string q0) := by
    obtain ⟨b0, o0, e0, hc⟩ := HHS.out 0 (by simp)
    simp only [Option.some.injEq, Addr.mk.injEq, and_true] at e0
    obtain ⟨rfl, rfl⟩ := e0
    exact hc
  have hq1 : w2.cell? ⟨w1.heap.size, 1, none⟩ = some (.string q1) := by
    obtain ⟨b0, o0, e0, hc⟩ := HHS.out 1 (by simp)
    simp only [Option.some.injEq, Addr.mk.injEq, and_true] at e0
    obtain ⟨rfl, rfl⟩ := e0
    exact hc
  have hq2 : w2.cell? ⟨w1.heap.size, 2, none⟩ = some (.string q2) := by
    obtain ⟨b0, o0, e0, hc⟩ := HHS.out 2 (by simp)
    simp only [Option.some.injEq, Addr.mk.injEq, and_true] at e0
    obtain ⟨rfl, rfl⟩ := e0
    exact hc
  have hl12 : w1.heap.size < w2.heap.size := lt_of_cell hq0
  have hz1 : q1.size ≤ 1048576 := Nat.le_trans (HHZ.out q1 (by simp)) hh0
  have hz2 : q2.size ≤ 1048576 := Nat.le_trans (HHZ.out q2 (by simp)) hh0
  have HM2 := Lib.hid (show labI s.data.toList = if q0.data.toList = wLab then (match rdec q1.data.toList, rdec q2.data.toList, allO itemI (bytesL mid) with | some x, some y, some xs => some ⟨x, y, xs⟩ | _, _, _ => none) else none by
    rw [HM.out, labM, if_pos ⟨by rw [bytesL, List.length_map]; exact HLe.out.1, HLe.out.2⟩, ← HH.out]
    rfl)
  rw [h3]
  have h3i : (((3 : Nat) : Int) != 3) = false := rfl
  clear hne h3 HM
  by_cases hqw : q0.data.toList = wLab
  rotate_left
  · have hqi : (q0.toList == [108, 97, 98, 101, 108]) = false := by
      have h := word_no (a := q0) (b := ⟨#[108, 97, 98, 101, 108]⟩) hqw
      simpa using h
    have HN := Lib.hid (HO.out.trans (rdLab_none (by rw [HM2.out, if_neg hqw])))
    clear hqw
    go_wp2_with fail
    refine bodyPost_ret (v := .tuple #[.agg #[.int .i64 0, .int .i64 0, .slice none 0 0], .bool false]) (by simp [results, Tryz.results13, go_sem, hc2]) rfl ⟨?_, .inl ⟨HN.out, rfl⟩⟩
    iterate 3 (refine Below.setCell ?_ (by dsimp only; omega) _)
    exact HB2.out
  have hqi : (q0.toList == [108, 97, 98, 101, 108]) = true := by
    have h := word_yes (a := q0) (b := ⟨#[108, 97, 98, 101, 108]⟩) hqw
    simpa using h
  have HM3 := Lib.hid (HM2.out.trans (if_pos hqw))
  clear hqw HM2
  go_wp2_with fail
  refine (readDecimal_any q1 _ hz1 (HE.out.next HB2.out)).mono ?_
  rintro e w3 ⟨v1, rfl, hv1, hb3⟩
  have HV1 := Lib.hid hv1
  have HB3 := Lib.hid (bt0 HB2.out hb3 (Nat.le_refl _))
  have K3 := Lib.hid (blkK hb3 K2.out)
  have HST3 := Lib.hid (HST2.out.below hb3)
  have hq2' : w3.cell? ⟨w1.heap.size, 2, none⟩ = some (.string q2) := (hb3.cell (p := ⟨w1.heap.size, 2, none⟩) hl12).trans hq2
  have hl13 : w1.heap.size < w3.heap.size := lt_of_cell hq2'
  obtain ⟨one, hone⟩ : ∃ one, (rdec q1.data.toList).isSome = one := ⟨_, rfl⟩
  have HONE := Lib.hid hone
  rw [hone]
  clear hv1 hb3 hq0 hq1 hq2 hone hc2 hf2
  go_wp2_with fail
  refine (readDecimal_any q2 _ hz2 (HE.out.next HB3.out)).mono ?_
  rintro e w4 ⟨v2, rfl, hv2, hb4⟩
  have HV2 := Lib.hid hv2
  have HB4 := Lib.hid (bt0 HB3.out hb4 (Nat.le_refl _))
  have K4 := Lib.hid (blkK hb4 K3.out)
  have HST4 := Lib.hid (HST3.out.below hb4)
  obtain ⟨two, htwo⟩ : ∃ two, (rdec q2.data.toList).isSome = two := ⟨_, rfl⟩
  have HTWO := Lib.hid htwo
  rw [htwo]
  have hB4 : B < w4.heap.size := by have := hb4.size; omega
  clear hv2 hb4 hq2' htwo
  have hw4 : w.heap.size < w4.heap.size := blkLt K4.out
  go_wp2_with fail
  have KL4 := Lib.hid (push_at w4 (.cells #[.int .i64 v1, .int .i64 v2, .slice none 0 0] 29 (0, 0)))
  have HB4a := Lib.hid (ba1 w4 (.cells #[.int .i64 v1, .int .i64 v2, .slice none 0 0] 29 (0, 0)))
  go_loopw [12, 13, 14, 72] (fun _ _ _ i wr => ∃ (k : Nat) (xs : List It) (v : Value), k ≤ m ∧ i = .int .i64 (k : Int) ∧ allO itemI ((bytesL mid).take k) = some xs ∧ itE.Own wr (w4.heap.size + 1) v xs ∧ wr.heap[w4.heap.size]? = some (.cells #[.int .i64 v1, .int .i64 v2, v] 29 (0, 0)) ∧ Below w4.heap.size w4 wr) (fun _ _ _ i _ => m - (intOf i).toNat)
  case atStart => exact ⟨0, [], .slice none 0 0, Nat.zero_le _, rfl, rfl, Enc.Own.nil itE _ _, KL4.out, HB4a.out⟩
  case round =>
    obtain ⟨k, xs, v, hk, rfl, hall, ho, hkl, hbr⟩ := hrel
    obtain ⟨a, c, rfl⟩ := ho.read
    have HALL := Lib.hid hall
    have HOW := Lib.hid ho
    have KL := Lib.hid hkl
    have HBR := Lib.hid hbr
    have HXL := Lib.hid (show xs.length ≤ 12 by
      have h := allO_len hall
      rw [List.length_take] at h
      omega)
    have KR := Lib.hid (blkK hbr K4.out)
    have HBW := Lib.hid (bt0 HB4.out hbr (Nat.le_refl _))
    have HZR := Lib.hid hbr.size
    clear hall ho hkl hbr
    obtain ⟨hcl, hfl⟩ := heap_cellR KL.out
    have hltl := blkLt KL.out
    obtain ⟨hcr, hfr⟩ := heap_cellR KR.out
    have hltr := blkLt KR.out
    have hlne : ¬ w4.heap.size = w.heap.size := by omega
    have hlne2 : ¬ w.heap.size = w4.heap.size := by omega
    by_cases hlt : k < m
    · have hki : (k : Int) < (m : Int) := by omega
      obtain ⟨z, hz⟩ : ∃ z, mid[k]? = some z := by rw [List.getElem?_eq_getElem (by rw [HMM.out]; exact hlt)]; exact ⟨_, rfl⟩
      have hzs := HLZ.out z (by simp [List.mem_of_getElem? hz])
      have HPK := Lib.hid (show (bytesL mid)[k]? = some z.data.toList by rw [bytesL, List.getElem?_map, hz]; rfl)
      have hcz : wr.cell? ⟨B, 1 + k, none⟩ = some (.string z) := by
        obtain ⟨b0, o0, z', e0, hz', -, hc⟩ := (HST4.out.below HBR.out).at (k := k + 1) (by simp [HMM.out]; omega)
        simp only [Option.some.injEq, Addr.mk.injEq, and_true] at e0
        obtain ⟨rfl, rfl⟩ := e0
        rw [List.getElem?_cons_succ, List.getElem?_append_left (by rw [HMM.out]; exact hlt), hz] at hz'
        rw [Nat.zero_add, Nat.add_comm k 1] at hc
        rw [hc, Option.some.inj hz']
      clear hz
      go_wp2_with fail
      refine (readItem_any z _ hzs (HE.out.next HBW.out)).mono ?_
      rintro e w5 ⟨x, rfl, hx, hb5⟩
      have HIX := Lib.hid hx
      have HB5 := Lib.hid (bt0 HBR.out hb5 (Nat.le_refl _))
      have HBW5 := Lib.hid (bt0 HBW.out hb5 (Nat.le_refl _))
      have HO5 := Lib.hid (HOW.out.grown hb5)
      have KL5 := Lib.hid (blkK hb5 KL.out)
      have K5 := Lib.hid (blkK hb5 KR.out)
      have HZ5 := Lib.hid hb5.size
      clear hx hb5 hcz hcl hfl hcr hfr
      obtain ⟨hcl, hfl⟩ := heap_cellR KL5.out
      obtain ⟨hcr, hfr⟩ := heap_cellR K5.out
      have hltl5 := blkLt KL5.out
      have hltr5 := blkLt K5.out
      cases hd : itemI z.data.toList with
      | none =>
        have HN := Lib.hid (HO.out.trans (rdLab_none (HM3.out.trans (by
          rw [allO_bad (List.mem_of_getElem? HPK.out) hd]
          generalize rdec q1.data.toList = A
          generalize rdec q2.data.toList = C
          cases A <;> cases C <;> rfl))))
        have e9 : (none : Option It).isSome = false := rfl
        rw [e9]
        clear hd e9
        obtain ⟨kd, row, col, sc, tall, wide, nm, lev, tx⟩ := x
        go_wp2_with fail
        refine bodyPost_ret (v := .tuple #[.agg #[.int .i64 0, .int .i64 0, .slice none 0 0], .bool false]) (by simp [results, Tryz.results13, go_sem, hcr, hltr5]) rfl ⟨?_, .inl ⟨HN.out, rfl⟩⟩
        refine bt0 ?_ (ba1 _ _) (Nat.le_refl _)
        iterate 3 (refine Below.setCell ?_ (by dsimp only; omega) _)
        exact HBW5.out
      | some y =>
        obtain rfl := HIX.out y hd
        have HD := Lib.hid (allO_take HPK.out HALL.out hd)
        have e9 : (some x : Option It).isSome = true := rfl
        rw [e9]
        have hxl := HXL.out
        clear hd e9
        obtain ⟨kd, row, col, sc, tall, wide, nm, lev, tx⟩ := x
        have hz5 := HZ5.out
        have hzr := HZR.out
        go_wp2_with (at_builtin; refine wpList_append_it (o := _) rfl (.tmp 85) (.tmp 87) rfl (w4.heap.size + 1) (.slice a xs.length c) xs ⟨kd, row, col, sc, tall, wide, nm, lev, tx⟩ rfl ((HO5.out.grown (ba1 _ _)).grown (ba1 _ _)) (w5.heap.size + 1) rfl (heap2 w5 _ _).2 ?c3 ?c4 ?h8)
        case c3 => omega
        case c4 => simp; omega
        case h8 =>
        intro a8 c8 l8 w8 he8 ho8 hg8 hb8
        have HE8 := Lib.hid he8
        have KL8 := Lib.hid (show w8.heap[w4.heap.size]? = some (.cells #[.int .i64 v1, .int .i64 v2, .slice a xs.length c] 29 (0, 0)) from (hg8.block _ (by simp; omega) (fun e => by have := HO5.out.lo _ e.symm; omega)).trans (push_old (push_old KL5.out)))
        have HB8 := Lib.hid (show Below w4.heap.size w4 w8 from (bt0 HB5.out (ba2 _ _ _) (Nat.le_refl _)).trans (hb8.mono (by omega)))
        have HO8 := Lib.hid ho8
        clear he8 ho8 hg8 hb8 hcl hfl
        obtain ⟨hcl, hfl⟩ := heap_cellR KL8.out
        have hltl8 := blkLt KL8.out
        go_wp2_with fail
        go_roundw
        case rel => exact ⟨_, _, _, _, _, _, _, _, _, _, _, _, _, _, _, _, _, _, _, _, _, _, _, ⟨k + 1, l8, .slice a8 l8.length c8, by omega, by go_num, by rw [HE8.out]; exact HD.out, HO8.out.src (by omega) (grownBy_set _ _ _ _), src_set KL8.out 2 _, HB8.out.setCell (Nat.le_refl _) _⟩, rfl⟩
        case measure => simp [intOf]; omega
    · obtain rfl : k = m := by omega
      have hki : ¬ (k : Int) < (k : Int) := by omega
      have HXS := Lib.hid (show allO itemI (bytesL mid) = some xs by have h := HALL.out; rwa [List.take_of_length_le (by rw [bytesL, List.length_map, HMM.out]; exact Nat.le_refl _)] at h)
      have HM4 := Lib.hid (HM3.out)
      rw [HXS.out] at HM4
      clear HM3 HALL
      cases hd1 : rdec q1.data.toList with
      | none =>
        have HN := Lib.hid (HO.out.trans (rdLab_none (HM4.out.trans (by rw [hd1]))))
        have e1 : one = false := by rw [← HONE.out, hd1]; rfl
        subst e1
        clear hd1
        go_wp2_with fail
        refine bodyPost_ret (v := .tuple #[.agg #[.int .i64 0, .int .i64 0, .slice none 0 0], .bool false]) (by simp [results, Tryz.results13, go_sem, hcr]) rfl ⟨?_, .inl ⟨HN.out, rfl⟩⟩
        iterate 3 (refine Below.setCell ?_ (by dsimp only; omega) _)
        exact HBW.out
      | some u1 =>
      obtain rfl := HV1.out u1 hd1
      have e1 : one = true := by rw [← HONE.out, hd1]; rfl
      subst e1
      cases hd2 : rdec q2.data.toList with
      | none =>
        have HN := Lib.hid (HO.out.trans (rdLab_none (HM4.out.trans (by rw [hd1, hd2]))))
        have e2 : two = false := by rw [← HTWO.out, hd2]; rfl
        subst e2
        clear hd1 hd2
        go_wp2_with fail
        refine bodyPost_ret (v := .tuple #[.agg #[.int .i64 0, .int .i64 0, .slice none 0 0], .bool false]) (by simp [results, Tryz.results13, go_sem, hcr]) rfl ⟨?_, .inl ⟨HN.out, rfl⟩⟩
        iterate 3 (refine Below.setCell ?_ (by dsimp only; omega) _)
        exact HBW.out
      | some u2 =>
      obtain rfl := HV2.out u2 hd2
      have e2 : two = true := by rw [← HTWO.out, hd2]; rfl
      subst e2
      have HL := Lib.hid (HO.out.trans (rdLab_some (l := ⟨v1, v2, xs⟩) (HM4.out.trans (by rw [hd1, hd2]))))
      have HIS := Lib.hid (isLabel_any ⟨v1, v2, xs⟩ a c wr HOW.out.at (fun x hx => by
        obtain ⟨lz, hlz, he⟩ := allO_mem HXS.out hx
        obtain ⟨z, hz, rfl⟩ := List.mem_map.1 hlz
        exact Nat.le_trans (itemI_sz he).1 (HLZ.out z (by simp [hz]))) (by have := HXL.out; show xs.length ≤ _; omega))
      have HLT := Lib.hid (fun w' h hok hT => labelTextIn_any ⟨v1, v2, xs⟩ a c w' h hok hT)
      obtain ⟨ok, hok⟩ : ∃ ok, ok = (⟨v1, v2, xs⟩ : Lb).ok := ⟨_, rfl⟩
      obtain ⟨TX, hTX⟩ : ∃ TX, TX = textL ⟨v1, v2, xs⟩ := ⟨_, rfl⟩
      rw [← hok] at HIS HLT HL
      rw [← hTX] at HLT HL
      obtain ⟨TB, hTB⟩ : ∃ TB : ByteArray, TB = ⟨TX.toArray⟩ := ⟨_, rfl⟩
      rw [← hTB] at HLT
      have HTB := Lib.hid (show TB.data.toList = TX by rw [hTB])
      unfold lbV at HIS HLT
      dsimp only at HIS HLT
      have HXA := Lib.hid HOW.out.at
      clear hd1 hd2 hok hTX hTB HXS HM4
      go_wp2_with fail
      refine HIS.out.mono ?_
      rintro e w5 ⟨rfl, hb5⟩
      have HBW5 := Lib.hid (bt0 HBW.out hb5 (Nat.le_refl _))
      have HO5 := Lib.hid (HOW.out.grown hb5)
      have KL5 := Lib.hid (blkK hb5 KL.out)
      have K5 := Lib.hid (blkK hb5 KR.out)
      clear hb5 hcl hfl hcr hfr
      obtain ⟨hcl, hfl⟩ := heap_cellR KL5.out
      obtain ⟨hcr, hfr⟩ := heap_cellR K5.out
      have hltl5 := blkLt KL5.out
      have hltr5 := blkLt K5.out
      rcases Bool.eq_false_or_eq_true ok with rfl | rfl
      rotate_left
      · have HN := Lib.hid (show O = none by rw [HL.out, if_neg (by simp)])
        go_wp2_with fail
        refine bodyPost_ret (v := .tuple #[.agg #[.int .i64 0, .int .i64 0, .slice none 0 0], .bool false]) (by simp [results, Tryz.results13, go_sem, hcr]) rfl ⟨?_, .inl ⟨HN.out, rfl⟩⟩
        iterate 3 (refine Below.setCell ?_ (by dsimp only; omega) _)
        exact HBW5.out
      have HLT5 := Lib.hid (HLT.out w5 HO5.out.at rfl (HE.out.next HBW5.out).tab)
      go_wp2_with fail
      refine HLT5.out.mono ?_
      rintro e w6 ⟨rfl, hb6⟩
      have HBW6 := Lib.hid (bt0 HBW5.out hb6 (Nat.le_refl _))
      have HO6 := Lib.hid (HO5.out.grown hb6)
      have KL6 := Lib.hid (blkK hb6 KL5.out)
      have K6 := Lib.hid (blkK hb6 K5.out)
      clear hb6 hcl hfl hcr hfr
      obtain ⟨hcl, hfl⟩ := heap_cellR KL6.out
      obtain ⟨hcr, hfr⟩ := heap_cellR K6.out
      have hltl6 := blkLt KL6.out
      have hltr6 := blkLt K6.out
      by_cases hts : TX = s.data.toList
      · have HY := Lib.hid (show O = some ⟨v1, v2, xs⟩ by rw [HL.out, if_pos ⟨by trivial, hts⟩])
        have hti : (TB.toList == s.toList) = true := word_yes (by rw [HTB.out]; exact hts)
        clear hts
        go_wp2_with fail
        refine bodyPost_ret (v := .tuple #[.agg #[.int .i64 v1, .int .i64 v2, .slice a xs.length c], .bool true]) (by simp [results, Tryz.results13, go_sem, hcr]) rfl ⟨?_, .inr ⟨⟨v1, v2, xs⟩, _, HY.out, rfl, ?_⟩⟩
        · iterate 3 (refine Below.setCell ?_ (by dsimp only; omega) _)
          exact HBW6.out
        · refine Enc.Own.weak (base := w4.heap.size + 1) ?_ (by omega)
          exact ((HO6.out.src (by omega) (grownBy_set _ _ _ _)).src (by omega) (grownBy_set _ _ _ _)).src (by omega) (grownBy_set _ _ _ _)
      · have HN := Lib.hid (show O = none by rw [HL.out, if_neg (fun h => hts h.2)])
        have hti : (TB.toList == s.toList) = false := word_no (by rw [HTB.out]; exact hts)
        clear hts
        go_wp2_with fail
        refine bodyPost_ret (v := .tuple #[.agg #[.int .i64 0, .int .i64 0, .slice none 0 0], .bool false]) (by simp [results, Tryz.results13, go_sem, hcr]) rfl ⟨?_, .inl ⟨HN.out, rfl⟩⟩
        iterate 3 (refine Below.setCell ?_ (by dsimp only; omega) _)
        exact HBW6.out

end Go.Proofs.YtlcglclojlffgaaGreatDoor
namespace Go.Proofs.YtlcglclojlffgaaGreatDoor
open Go.RowKit

/-- drawn items keep to bounds -/
def ItsD (xs : List It) : Prop := ∀ x ∈ xs, x.text.size ≤ 6 ∧ x.name.size ≤ 6
theorem StE.belowE {α : Type} {E : Enc α} {w W W' : World} {b : Nat} {v : Value} {xs : List α} (h : StE E w b v xs W) (hb : Below W.heap.size W W') : StE E w b v xs W' :=
  ⟨⟨h.1.1.below hb, grownBy_trans h.1.2 ⟨hb.os, hb.tape, hb.output, hb.size, fun k hk _ => hb.block k hk⟩⟩, h.2.grown hb⟩
theorem itsD_snoc {xs : List It} {x : It} (h : ItsD xs) (h1 : x.text.size ≤ 6) (h2 : x.name.size ≤ 6) : ItsD (xs ++ [x]) := by
  intro y hy
  rcases List.mem_append.1 hy with hy | hy
  · exact h y hy
  · rw [List.mem_singleton] at hy
    subst hy; exact ⟨h1, h2⟩
/-- a drawn label is handed back -/
def RetDLb (w : World) (b : Nat) (e : Ending) (w' : World) : Prop :=
  ∃ (l : Lb) (a : Option Addr) (c : Nat), e = .returned (lbV l a c) ∧ l.items.length ≤ 13 ∧ ItsD l.items ∧ itE.Own w' w.heap.size (.slice a l.items.length c) l.items ∧ StB b w w'

set_option maxRecDepth 100000 in
set_option maxHeartbeats 2000000 in
theorem l29Draw_any (b : Nat) (w : World) (hs : Src w b) :
    Calls Tryz.prog 28 #[.pointer (some ⟨b, 0, none⟩)] w (RetDLb w b) := by
  have hlt := hs.lt
  have HS := Lib.hid (hs.kept (World.grownBy_alloc w (.cells #[.int .i64 0, .int .i64 0, .slice none 0 0] 29 (0, 0)) none) (by simp))
  have HG := Lib.hid (World.grownBy_alloc w (.cells #[.int .i64 0, .int .i64 0, .slice none 0 0] 29 (0, 0)) (some b))
  have K0 := Lib.hid (push_at w (.cells #[.int .i64 0, .int .i64 0, .slice none 0 0] 29 (0, 0)))
  clear hs
  go_enter Tryz.func28, Tryz.ntmps28
  go_wp2_with fail
  refine (l01Next_any b 40 _ HS.out (by decide) (by decide)).mono ?_
  rintro e W1 ⟨r1, rfl, p0, p1, hs, hg⟩
  have HS1 := Lib.hid hs
  have HG1 := Lib.hid (grownBy_trans HG.out hg)
  have K1 := Lib.hid ((hg.block w.heap.size (by simp) (fun e => by have := Option.some.inj e; omega)).trans K0.out)
  replace p1 : r1 ≤ 39 := by omega
  clear hs hg HS HG K0
  go_wp2_with fail
  refine (l01Next_any b 100 _ HS1.out (by decide) (by decide)).mono ?_
  rintro e W2 ⟨r2, rfl, p2, p3, hs, hg⟩
  have HS2 := Lib.hid hs
  have HG2 := Lib.hid (grownBy_trans HG1.out hg)
  have K2 := Lib.hid ((hg.block w.heap.size (blkLt K1.out) (fun e => by have := Option.some.inj e; omega)).trans K1.out)
  replace p3 : r2 ≤ 99 := by omega
  clear hs hg HS1 HG1 K1
  have hl2 := blkLt K2.out
  obtain ⟨hcr, hfr⟩ := heap_cellR K2.out
  have hb2 := HS2.out.lt
  obtain ⟨C, hC⟩ : ∃ C, C = 60 + r2 := ⟨_, rfl⟩
  have hw2 : IntKind.i64.wrap (60 + r2) = C := by rw [hC]; exact IntWalk.i64_in _ (by omega)
  have hCb : 60 ≤ C ∧ C ≤ 159 := by omega
  clear hC
  go_wp2_with fail
  obtain ⟨R, hR⟩ : ∃ R, 30 + r1 = R := ⟨_, rfl⟩
  have hRb : 30 ≤ R ∧ R ≤ 69 := by omega
  obtain ⟨W3, hW3⟩ : ∃ W3, W3 = W2.alloc (.cells #[.int .i64 R, .int .i64 C, .slice none 0 0] 29 (0, 0)) := ⟨_, rfl⟩
  have hsz3 : W3.heap.size = W2.heap.size + 1 := by rw [hW3]; simp
  have HS3 := Lib.hid (show StB b w W3 from (by rw [hW3]; exact stB_alloc ⟨HS2.out, HG2.out⟩ _))
  have KL3 := Lib.hid (show W3.heap[W2.heap.size]? = some (.cells #[.int .i64 R, .int .i64 C, .slice none 0 0] 29 (0, 0)) by rw [hW3]; exact push_at _ _)
  have K3 := Lib.hid (show W3.heap[w.heap.size]? = some (.cells #[.int .i64 0, .int .i64 0, .slice none 0 0] 29 (0, 0)) by rw [hW3]; exact push_old K2.out)
  have hb3 : b < W3.heap.size := by omega
  have hl23 : W2.heap.size < W3.heap.size := by omega
  rw [hR, ← hW3, ← hsz3]
  clear hsz3 hR hW3 hw2 hcr hfr
  refine (l01Next_any b 4 _ (stB_alloc (HS3.out) _).1 (by decide) (by decide)).mono ?_
  rintro e W4 ⟨q, rfl, s0, s1, hs, hg⟩
  obtain ⟨k1, rfl⟩ := Int.eq_ofNat_of_zero_le s0
  have hk1 : k1 ≤ 3 := by omega
  have H0 : Hid (StE itE W3 b (.slice (some ⟨W3.heap.size, 0, none⟩) 0 0) [] W4) := Lib.hid (StE.draw (W := W3.alloc (.cells #[] 49 (0, 0))) ⟨⟨(stB_alloc HS3.out _).1, World.grownBy_alloc _ _ _⟩, Enc.Own.new itE W3⟩ hb3 hs hg)
  clear hs hg s0 s1
  go_wp2_with fail
  go_loopw [4, 5, 6, 7, 8, 9] (fun v i _ _ _ _ wr => ∃ (xs : List It) (k : Nat), i = .int .i64 (k : Int) ∧ xs.length + k ≤ 3 ∧ ItsD xs ∧ StE itE W3 b v xs wr) (fun _ i _ _ _ _ _ => (intOf i).toNat)
  case atStart => exact ⟨[], k1, rfl, by simp; omega, (fun x hx => by cases hx), H0.out⟩
  case round =>
    clear H0
    obtain ⟨xs, k, rfl, hdk, hxd, hst⟩ := hrel
    have HST := Lib.hid hst
    have HDK := Lib.hid hdk
    have HXD := Lib.hid hxd
    have hk3 : k ≤ 3 := by omega
    have hxl : xs.length ≤ 3 := by omega
    obtain ⟨a0, c0, rfl⟩ := hst.2.read
    have KL := Lib.hid ((hst.1.2.block W2.heap.size hl23 (fun e => by have := Option.some.inj e; omega)).trans KL3.out)
    clear hst hdk hxd
    by_cases hk0 : 0 < k
    · have hki : (0 : Int) < (k : Int) := by omega
      go_wp2_with fail
      refine (l29DrawItem_any b wr HST.out.1.1).mono ?_
      rintro e W5 ⟨kd, row, col, sc, tall, wide, nm, lev, tx, rfl, hid, hst5⟩
      have H5 := Lib.hid (HST.out.draw hb3 hst5.1 hst5.2)
      have KL5 := Lib.hid ((hst5.2.block W2.heap.size (blkLt KL.out) (fun e => by have := Option.some.inj e; omega)).trans KL.out)
      have HID := Lib.hid hid
      have hl5 := blkLt KL5.out
      have KX := Lib.hid (push_at W5 (.cells #[.int .i64 kd, .int .i64 row, .int .i64 col, .int .i64 sc, .int .i64 tall, .int .i64 wide, .string nm, .int .i64 lev, .string tx] 49 (0, 0)))
      have HIB := Lib.hid (fun w => spItemBox_any ⟨kd, row, col, sc, tall, wide, nm, lev, tx⟩ w (by have := hid.2.1; show tx.size ≤ _; omega))
      have HBD := Lib.hid (fun r c h => boxI_bd (x := ⟨kd, row, col, sc, tall, wide, nm, lev, tx⟩) (r := r) (c := c) h)
      unfold itV at HIB
      dsimp only at HIB
      obtain ⟨BI, hBI⟩ : ∃ BI, BI = boxI ⟨kd, row, col, sc, tall, wide, nm, lev, tx⟩ := ⟨_, rfl⟩
      rw [← hBI] at HIB HBD
      clear hst5 hid hBI
      go_wp2_with fail
      refine (HIB.out _).mono ?_
      rintro e W6 ⟨hb6, hr⟩
      have H6 := Lib.hid ((H5.out.belowE (ba1 _ _)).belowE hb6)
      have KL6 := Lib.hid (blkK hb6 (push_old KL5.out))
      have KX6 := Lib.hid (blkK hb6 KX.out)
      have hbx : ¬ b = W5.heap.size := by have := H5.out.1.1.lt; omega
      clear hb6 KX
      obtain ⟨hcX, hfX⟩ := heap_cellR KX6.out
      have hlX := blkLt KX6.out
      obtain ⟨hcL, hfL⟩ := heap_cellR KL6.out
      have hlL := blkLt KL6.out
      obtain ⟨-, -, hrow, hcol, -⟩ := HID.out
      rcases hr with ⟨r, cc, hr, rfl⟩ | ⟨hr, rfl⟩
      · have hbd := HBD.out r cc hr
        have hwa : wrap64 (row + r) = row + r := by unfold wrap64; omega
        have hwb : wrap64 (col + cc) = col + cc := by unfold wrap64; omega
        clear hr
        by_cases h1 : row + r ≤ R
        · by_cases h2 : col + cc ≤ C
          · clear hcX hfX hlX
            obtain ⟨hcX, hfX⟩ := heap_cellR KX6.out
            have hlX := blkLt KX6.out
            have hz := H6.out.1.2.size
            go_wp2_with (at_builtin; refine wpList_append_it (o := _) rfl (.tmp 57) (.tmp 59) rfl W3.heap.size (.slice a0 xs.length c0) xs ⟨kd, row, col, sc, tall, wide, nm, lev, tx⟩ rfl (H6.out.2.grown (ba1 _ _)) W6.heap.size rfl (push_at _ _) ?c3 ?c4 ?h8)
            case c3 => omega
            case c4 => simp; omega
            case h8 =>
            intro a8 c8 l8 w8 he8 ho8 hg8 hb8
            have H8 := Lib.hid (H6.out.app hb3 hg8 ho8)
            have HL8 := Lib.hid he8
            clear he8 ho8 hg8 hb8
            go_wp2_with fail
            go_roundw
            case rel => exact ⟨l8, k - 1, by go_num, by have := HDK.out; rw [HL8.out]; simp; omega, (by rw [HL8.out]; exact itsD_snoc HXD.out HID.out.2.1 HID.out.1), H8.out⟩
            case measure => simp [intOf]; omega
          · have h2i : ¬ (col + cc ≤ C) := h2
            go_wp2_with fail
            refine (l01Next_any b 12 _ H6.out.1.1 (by decide) (by decide)).mono ?_
            rintro e W7 ⟨q, rfl, s0, s1, hs, hg⟩
            have H7 := Lib.hid (H6.out.draw hb3 hs hg)
            have KX7 := Lib.hid ((hg.block W5.heap.size (blkLt KX6.out) (fun e => hbx (Option.some.inj e).symm)).trans KX6.out)
            clear hs hg hcX hfX hlX hcL hfL
            by_cases hq0 : q = 0
            · have hqi : (q == 0) = true := by simp [hq0]
              obtain ⟨hcX, hfX⟩ := heap_cellR KX7.out
              have hlX := blkLt KX7.out
              have hz := H7.out.1.2.size
              go_wp2_with (at_builtin; refine wpList_append_it (o := _) rfl (.tmp 57) (.tmp 59) rfl W3.heap.size (.slice a0 xs.length c0) xs ⟨kd, row, col, sc, tall, wide, nm, lev, tx⟩ rfl (H7.out.2.grown (ba1 _ _)) W7.heap.size rfl (push_at _ _) ?c3 ?c4 ?h8)
              case c3 => omega
              case c4 => simp; omega
              case h8 =>
              intro a8 c8 l8 w8 he8 ho8 hg8 hb8
              have H8 := Lib.hid (H7.out.app hb3 hg8 ho8)
              have HL8 := Lib.hid he8
              clear he8 ho8 hg8 hb8
              go_wp2_with fail
              go_roundw
              case rel => exact ⟨l8, k - 1, by go_num, by have := HDK.out; rw [HL8.out]; simp; omega, (by rw [HL8.out]; exact itsD_snoc HXD.out HID.out.2.1 HID.out.1), H8.out⟩
              case measure => simp [intOf]; omega
            · have hqi : (q == 0) = false := by simp [hq0]
              go_wp2_with fail
              go_roundw
              case rel => exact ⟨xs, k - 1, by go_num, by have := HDK.out; omega, HXD.out, H7.out⟩
              case measure => simp [intOf]; omega
        · have h1i : ¬ (row + r ≤ R) := h1
          go_wp2_with fail
          refine (l01Next_any b 12 _ H6.out.1.1 (by decide) (by decide)).mono ?_
          rintro e W7 ⟨q, rfl, s0, s1, hs, hg⟩
          have H7 := Lib.hid (H6.out.draw hb3 hs hg)
          have KX7 := Lib.hid ((hg.block W5.heap.size (blkLt KX6.out) (fun e => hbx (Option.some.inj e).symm)).trans KX6.out)
          clear hs hg hcX hfX hlX hcL hfL
          by_cases hq0 : q = 0
          · have hqi : (q == 0) = true := by simp [hq0]
            obtain ⟨hcX, hfX⟩ := heap_cellR KX7.out
            have hlX := blkLt KX7.out
            have hz := H7.out.1.2.size
            go_wp2_with (at_builtin; refine wpList_append_it (o := _) rfl (.tmp 57) (.tmp 59) rfl W3.heap.size (.slice a0 xs.length c0) xs ⟨kd, row, col, sc, tall, wide, nm, lev, tx⟩ rfl (H7.out.2.grown (ba1 _ _)) W7.heap.size rfl (push_at _ _) ?c3 ?c4 ?h8)
            case c3 => omega
            case c4 => simp; omega
            case h8 =>
            intro a8 c8 l8 w8 he8 ho8 hg8 hb8
            have H8 := Lib.hid (H7.out.app hb3 hg8 ho8)
            have HL8 := Lib.hid he8
            clear he8 ho8 hg8 hb8
            go_wp2_with fail
            go_roundw
            case rel => exact ⟨l8, k - 1, by go_num, by have := HDK.out; rw [HL8.out]; simp; omega, (by rw [HL8.out]; exact itsD_snoc HXD.out HID.out.2.1 HID.out.1), H8.out⟩
            case measure => simp [intOf]; omega
          · have hqi : (q == 0) = false := by simp [hq0]
            go_wp2_with fail
            go_roundw
            case rel => exact ⟨xs, k - 1, by go_num, by have := HDK.out; omega, HXD.out, H7.out⟩
            case measure => simp [intOf]; omega
      · clear hr
        go_wp2_with fail
        refine (l01Next_any b 12 _ H6.out.1.1 (by decide) (by decide)).mono ?_
        rintro e W7 ⟨q, rfl, s0, s1, hs, hg⟩
        have H7 := Lib.hid (H6.out.draw hb3 hs hg)
        have KX7 := Lib.hid ((hg.block W5.heap.size (blkLt KX6.out) (fun e => hbx (Option.some.inj e).symm)).trans KX6.out)
        clear hs hg hcX hfX hlX hcL hfL
        by_cases hq0 : q = 0
        · have hqi : (q == 0) = true := by simp [hq0]
          obtain ⟨hcX, hfX⟩ := heap_cellR KX7.out
          have hlX := blkLt KX7.out
          have hz := H7.out.1.2.size
          go_wp2_with (at_builtin; refine wpList_append_it (o := _) rfl (.tmp 57) (.tmp 59) rfl W3.heap.size (.slice a0 xs.length c0) xs ⟨kd, row, col, sc, tall, wide, nm, lev, tx⟩ rfl (H7.out.2.grown (ba1 _ _)) W7.heap.size rfl (push_at _ _) ?c3 ?c4 ?h8)
          case c3 => omega
          case c4 => simp; omega
          case h8 =>
          intro a8 c8 l8 w8 he8 ho8 hg8 hb8
          have H8 := Lib.hid (H7.out.app hb3 hg8 ho8)
          have HL8 := Lib.hid he8
          clear he8 ho8 hg8 hb8
          go_wp2_with fail
          go_roundw
          case rel => exact ⟨l8, k - 1, by go_num, by have := HDK.out; rw [HL8.out]; simp; omega, (by rw [HL8.out]; exact itsD_snoc HXD.out HID.out.2.1 HID.out.1), H8.out⟩
          case measure => simp [intOf]; omega
        · have hqi : (q == 0) = false := by simp [hq0]
          go_wp2_with fail
          go_roundw
          case rel => exact ⟨xs, k - 1, by go_num, by have := HDK.out; omega, HXD.out, H7.out⟩
          case measure => simp [intOf]; omega
    · have hki : ¬ (0 : Int) < (k : Int) := by omega
      have KR := Lib.hid ((HST.out.1.2.block w.heap.size (blkLt K3.out) (fun e => by have := Option.some.inj e; omega)).trans K3.out)
      clear HDK
      go_wp2_with fail
      refine (l01Next_any b 40 _ HST.out.1.1 (by decide) (by decide)).mono ?_
      rintro e W5 ⟨q, rfl, s0, s1, hs, hg⟩
      have H5 := Lib.hid (HST.out.draw hb3 hs hg)
      have KL5 := Lib.hid ((hg.block W2.heap.size (blkLt KL.out) (fun e => by have := Option.some.inj e; omega)).trans KL.out)
      have KR5 := Lib.hid ((hg.block w.heap.size (blkLt KR.out) (fun e => by have := Option.some.inj e; omega)).trans KR.out)
      have hl2r : W2.heap.size ≠ b := by omega
      clear hs hg s1
      by_cases hq0 : q = 0
      · have hqi : (q == 0) = true := by simp [hq0]
        clear hq0 HST KL KR
        go_wp2_with fail
        go_loopw [4] (fun v wr => ∃ (xs : List It) (a : Option Addr) (c : Nat), v = .slice a xs.length c ∧ xs.length ≤ 13 ∧ ItsD xs ∧ StE itE W3 b v xs wr) (fun v _ => 14 - (match v with | .slice _ n _ => n | _ => 0))
        case atStart => exact ⟨xs, a0, c0, rfl, by omega, HXD.out, H5.out⟩
        case round =>
          clear H5 HXD hxl KL5 KR5
          obtain ⟨ys, a, c, rfl, hl, hyd, hst⟩ := hrel
          have HY := Lib.hid hst
          have HYD := Lib.hid hyd
          have KLy := Lib.hid ((hst.1.2.block W2.heap.size hl23 (fun e => by have := Option.some.inj e; omega)).trans KL3.out)
          have KRy := Lib.hid ((hst.1.2.block w.heap.size (blkLt K3.out) (fun e => by have := Option.some.inj e; omega)).trans K3.out)
          clear hst hyd
          go_wp2_with fail
          refine (l01Next_any b 2 _ HY.out.1.1 (by decide) (by decide)).mono ?_
          rintro e W6 ⟨r, rfl, z0, z1, hs, hg⟩
          have H6 := Lib.hid (HY.out.draw hb3 hs hg)
          have KL6 := Lib.hid ((hg.block W2.heap.size (blkLt KLy.out) (fun e => by have := Option.some.inj e; omega)).trans KLy.out)
          have KR6 := Lib.hid ((hg.block w.heap.size (blkLt KRy.out) (fun e => by have := Option.some.inj e; omega)).trans KRy.out)
          have hr1 : r ≤ 1 := by omega
          clear hs hg z1
          by_cases hm : (ys.length : Int) < 12 + r
          · have hz := H6.out.1.2.size
            go_wp2_with (at_builtin; refine wpList_append_it (o := _) rfl (.tmp 70) (.tmp 72) rfl W3.heap.size (.slice a ys.length c) ys ⟨2, 0, 0, 0, 1, 2, ⟨#[]⟩, 0, ⟨#[]⟩⟩ rfl (H6.out.2.grown (ba1 _ _)) W6.heap.size rfl (push_at _ _) ?c3 ?c4 ?h8)
            case c3 => omega
            case c4 => simp; omega
            case h8 =>
            intro a8 c8 l8 w8 he8 ho8 hg8 hb8
            have H8 := Lib.hid (H6.out.app hb3 hg8 ho8)
            have HL8 := Lib.hid he8
            clear he8 ho8 hg8 hb8
            go_wp2_with fail
            refine ⟨⟨l8, a8, c8, rfl, by rw [HL8.out]; simp; omega, (by rw [HL8.out]; exact itsD_snoc HYD.out (by decide) (by decide)), H8.out⟩, ?_⟩
            show 14 - l8.length < 14 - ys.length
            rw [HL8.out]; simp; omega
          · skip
            obtain ⟨hcL, hfL⟩ := heap_cellR KL6.out
            have hlL := blkLt KL6.out
            have hlr := blkLt KR6.out
            obtain ⟨hcr, hfr⟩ := heap_cellR KR6.out
            have hne : ¬ W2.heap.size = w.heap.size := by omega
            have hne2 : ¬ w.heap.size = W2.heap.size := by omega
            go_wp2_with fail
            refine bodyPost_ret (v := .agg #[.int .i64 R, .int .i64 C, .slice a ys.length c]) (by simp [results, Tryz.results28, go_sem, hcr]) rfl ⟨⟨R, C, ys⟩, a, c, rfl, by show ys.length ≤ 13; omega, HYD.out, ?_, ?_⟩
            · refine Enc.Own.weak (base := W3.heap.size) ?_ (by omega)
              iterate 3 (refine Enc.Own.src ?_ (b := w.heap.size) (by omega) (grownBy_set _ _ _ _))
              exact H6.out.2
            · iterate 3 (refine stB_set ?_ hlt (Nat.le_refl _))
              exact ⟨H6.out.1.1, grownBy_trans HS3.out.2 H6.out.1.2⟩
      · have hqi : (q == 0) = false := by simp [hq0]
        obtain ⟨hcL, hfL⟩ := heap_cellR KL5.out
        have hlL := blkLt KL5.out
        have hlr := blkLt KR5.out
        obtain ⟨hcr, hfr⟩ := heap_cellR KR5.out
        have hne : ¬ W2.heap.size = w.heap.size := by omega
        have hne2 : ¬ w.heap.size = W2.heap.size := by omega
        go_wp2_with fail
        refine bodyPost_ret (v := .agg #[.int .i64 R, .int .i64 C, .slice a0 xs.length c0]) (by simp [results, Tryz.results28, go_sem, hcr]) rfl ⟨⟨R, C, xs⟩, a0, c0, rfl, by show xs.length ≤ 13; omega, HXD.out, ?_, ?_⟩
        · refine Enc.Own.weak (base := W3.heap.size) ?_ (by omega)
          iterate 3 (refine Enc.Own.src ?_ (b := w.heap.size) (by omega) (grownBy_set _ _ _ _))
          exact H5.out.2
        · iterate 3 (refine stB_set ?_ hlt (Nat.le_refl _))
          exact ⟨H5.out.1.1, grownBy_trans HS3.out.2 H5.out.1.2⟩

end Go.Proofs.YtlcglclojlffgaaGreatDoor
namespace Go.Proofs.YtlcglclojlffgaaGreatDoor
open Go.RowKit

/-- two boxes have a common pixel -/
def hitB (a b : Bx) : Bool := decide (a.row < b.row + b.rows) && decide (b.row < a.row + a.rows) && decide (a.col < b.col + b.cols) && decide (b.col < a.col + a.cols)
def bx0 (bs : List Bx) (i : Nat) : Bx := bs.getD i ⟨0, 0, 0, 0⟩
theorem bx0_some {bs : List Bx} {i : Nat} {x : Bx} (h : bs[i]? = some x) : bx0 bs i = x := by rw [bx0, List.getD_eq_getElem?_getD, h]; rfl
/-- the pairs of i with a later one below k -/
def ovTo (bs : List Bx) (i : Nat) : Nat → List (List Int)
  | 0 => []
  | k + 1 => ovTo bs i k ++ (if i < k ∧ hitB (bx0 bs i) (bx0 bs k) = true then [[(i : Int), (k : Int)]] else [])
/-- the pairs whose first is below i -/
def ovAll (bs : List Bx) : Nat → List (List Int)
  | 0 => []
  | i + 1 => ovAll bs i ++ ovTo bs i bs.length
theorem ovTo_low (bs : List Bx) (i : Nat) : ∀ k, k ≤ i + 1 → ovTo bs i k = []
  | 0, _ => rfl
  | k + 1, h => by rw [ovTo, ovTo_low bs i k (by omega), if_neg (by omega)]; rfl
theorem ovTo_hit {bs : List Bx} {i k : Nat} (h : i < k) (hh : hitB (bx0 bs i) (bx0 bs k) = true) : ovTo bs i (k + 1) = ovTo bs i k ++ [[(i : Int), (k : Int)]] := by rw [ovTo, if_pos ⟨h, hh⟩]
theorem ovTo_miss {bs : List Bx} {i k : Nat} (hh : hitB (bx0 bs i) (bx0 bs k) = false) : ovTo bs i (k + 1) = ovTo bs i k := by rw [ovTo, if_neg (fun h => by rw [hh] at h; cases h.2), List.append_nil]
theorem ovTo_len (bs : List Bx) (i : Nat) : ∀ k, (ovTo bs i k).length ≤ k
  | 0 => Nat.le_refl _
  | k + 1 => by
    have := ovTo_len bs i k
    rw [ovTo, List.length_append]
    split <;> simp <;> omega
theorem ovAll_len (bs : List Bx) : ∀ i, (ovAll bs i).length ≤ i * bs.length
  | 0 => by simp [ovAll]
  | i + 1 => by
    have := ovAll_len bs i
    have := ovTo_len bs i bs.length
    rw [ovAll, List.length_append, Nat.succ_mul]
    omega
/-- rows of pairs, and a code -/
def RetOv (w : World) (ok : Bool) (rs : List (List Int)) (e : Ending) (w' : World) : Prop :=
  Below w.heap.size w w' ∧ ((ok = true ∧ ∃ a c, e = .returned (.tuple #[.slice a rs.length c, .int .i64 0]) ∧ RwsOwn w' w.heap.size (.slice a rs.length c) rs) ∨
    (ok = false ∧ e = .returned (.tuple #[.slice none 0 0, .int .i64 1])))
theorem rwsOwn_weak {W : World} {base base' : Nat} {v : Value} {ws : List (List Int)} (h : RwsOwn W base v ws) (hb : base' ≤ base) : RwsOwn W base' v ws := by
  obtain ⟨vs, h1, h2, h3⟩ := h
  refine ⟨vs, h1, ⟨h2.1, ?_⟩, h3⟩
  rcases h2.2 with h | ⟨g, cap, cur, e, hb', r⟩
  · exact Or.inl h
  · exact Or.inr ⟨g, cap, cur, e, by omega, r⟩
theorem ownI_two (w : World) (x y : Int) : OwnI (w.alloc (.cells #[.int .i64 x, .int .i64 y] 2 (0, 0))) 0 (.slice (some ⟨w.heap.size, 0, none⟩) 2 2) [x, y] :=
  World.ownsRow_lit (base := 0) (size := 1) w #[.int .i64 x, .int .i64 y] 2 (Nat.zero_le _) (by unfold maxLen; omega) rfl
/-- a pair in a new list, behind another new block -/
theorem pair_new (w : World) (o : Obj) (x y : Int) : ((((w.alloc o).alloc (.cells #[.int .i64 x, .int .i64 y] 2 (0, 0))).alloc (.cells #[.slice (some ⟨w.heap.size + 1, 0, none⟩) 2 2] 67 (0, 0))).heap[w.heap.size + 2]? = some (.cells #[.slice (some ⟨w.heap.size + 1, 0, none⟩) 2 2] 67 (0, 0))) ∧
    OwnI (((w.alloc o).alloc (.cells #[.int .i64 x, .int .i64 y] 2 (0, 0))).alloc (.cells #[.slice (some ⟨w.heap.size + 1, 0, none⟩) 2 2] 67 (0, 0))) 0 (.slice (some ⟨w.heap.size + 1, 0, none⟩) 2 2) [x, y] := by
  have e1 : (w.alloc o).heap.size = w.heap.size + 1 := by simp
  have e2 : ((w.alloc o).alloc (.cells #[.int .i64 x, .int .i64 y] 2 (0, 0))).heap.size = w.heap.size + 2 := by simp
  constructor
  · have h := push_at ((w.alloc o).alloc (.cells #[.int .i64 x, .int .i64 y] 2 (0, 0))) (.cells #[.slice (some ⟨w.heap.size + 1, 0, none⟩) 2 2] 67 (0, 0))
    rw [e2] at h
    exact h
  · have h := ownI_two (w.alloc o) x y
    rw [e1] at h
    exact h.grown (ba1 _ _)
/-- append of a list to a row of lists, all that is known of it -/
theorem wpList_append_rwg {ops : Array Oper} {rest : List Oper} {o : Oper} {a : Act} {Q : Exit → Act → World → Prop} {W : World} (hgd : o.guard = none) (s x : Operand)
    (ho : o.op = .call { callee := .builtin .append, args := #[s, x], argTypes := #[38, 38] })
    (base : Nat) (v : Value) (ws : List (List Int)) (y : List Int) (hs : a.eval s = v) (hown : RwsOwn W base v ws) (g : Nat) (u : Value) (hx : a.eval x = .slice (some ⟨g, 0, none⟩) 1 1)
    (hg : W.heap[g]? = some (.cells #[u] 67 (0, 0))) (hu : OwnI W 0 u y) (hl : ws.length ≤ 1000000000) (hb : base ≤ W.heap.size)
    (h : ∀ a' c' ws' w', ws' = ws ++ [y] → RwsOwn w' base (.slice a' ws'.length c') ws' → W.grownBy w' v.ownBlock → Below base W w' → wpList Tryz.prog ops Q rest (a.put o.dst (.slice a' ws'.length c')) w') : wpList Tryz.prog ops Q (o :: rest) a W := by
  obtain ⟨i0, hi, y0, y1, y2⟩ := info_parts infoSl
  obtain ⟨vs, h1, h2, h3⟩ := hown
  obtain ⟨au, cu, rfl, -⟩ := hu.read
  refine wpList_append_own _ hgd s x 38 ho base 67 i0 _ 1 24 Tryz.underlying38 hi y0 y1 y2 rfl (by decide) v ws.length vs hs h2 ⟨g, 0, none⟩ 1 1 [.slice au y.length cu] hx rfl ?_ ?_ (by unfold maxLen; omega) (by omega) hb
    (fun v' w' k1 k2 _ => ?_)
  · intro j u hu
    rw [Addr.add_lit, Nat.zero_add, (heap_cellR hg).1, ← hu]
    simp
  · intro u hu
    simp only [List.mem_singleton] at hu
    subst hu; rfl
  · have ho' : RwsOwn w' base v' (ws ++ [y]) := by
      refine ⟨vs ++ [.slice au y.length cu], by simp [h1], by rw [List.length_append]; exact k1, fun i z hz => ?_⟩
      by_cases hi : i < ws.length
      · rw [List.getElem?_append_left hi] at hz
        obtain ⟨u, hu, hp⟩ := h3 i z hz
        exact ⟨u, by rw [List.getElem?_append_left (by omega)]; exact hu, hp.grownRow h2 k2 (by decide)⟩
      · rw [List.getElem?_append_right (by omega)] at hz
        have hi0 : i - ws.length = 0 := by
          have := (List.getElem?_eq_some_iff.1 hz).1
          simp at this; omega
        rw [hi0] at hz
        simp at hz
        subst hz
        refine ⟨_, by rw [List.getElem?_append_right (by omega), h1, hi0]; rfl, hu.grownRow h2 k2 (by decide)⟩
    obtain ⟨a', c', e⟩ := ho'.read
    rw [e] at ho' ⊢
    exact h a' c' _ w' rfl ho' k2 (below_of_grownBy k2 hb (fun k hk => (World.ownsRow.lt h2 k hk).1))
theorem rwsOwn_ne {W : World} {base g : Nat} {v : Value} {ws : List (List Int)} {C : Array Value} {T : TypeId} (h : RwsOwn W base v ws) (k : W.heap[g]? = some (.cells C T (0, 0))) (hT : T ≠ 67) : v.ownBlock ≠ some g := by
  obtain ⟨vs, h1, h2, h3⟩ := h
  exact fun e => owns_type h2 k hT e

end Go.Proofs.YtlcglclojlffgaaGreatDoor
namespace Go.Proofs.YtlcglclojlffgaaGreatDoor
open Go.RowKit

theorem lb_bd0 {l : Lb} (h : l.ok = true) : True ∧ ((1 ≤ l.rows ∧ l.rows ≤ 400) ∧ (1 ≤ l.cols ∧ l.cols ≤ 400)) ∧ l.items.length ≤ 12 := by
  rw [Lb.ok] at h
  simp only [Bool.and_eq_true, decide_eq_true_eq] at h
  exact ⟨trivial, by omega, by omega⟩
/-- bounds of a box on a label -/
def BxD (x : Bx) : Prop := (0 ≤ x.row ∧ x.row ≤ 400) ∧ (0 ≤ x.col ∧ x.col ≤ 400) ∧ (0 ≤ x.rows ∧ x.rows ≤ 2000) ∧ (0 ≤ x.cols ∧ x.cols ≤ 2000)
theorem onL_bxD {l : Lb} {x : It} (h : onL l x = true) (hr : l.rows ≤ 400) (hc : l.cols ≤ 400) : ∃ r c, boxI x = some (r, c) ∧ bxO x = ⟨x.row, x.col, r, c⟩ ∧ BxD (bxO x) := by
  cases hb : boxI x with
  | none => rw [onL_none hb] at h; cases h
  | some rc =>
    obtain ⟨r, c⟩ := rc
    have hd := boxI_bd hb
    rw [onL_cnt hb, cntB] at h
    simp only [Bool.and_eq_true, decide_eq_true_eq] at h
    refine ⟨r, c, rfl, bxO_some hb, ?_⟩
    rw [bxO_some hb]
    exact ⟨by dsimp only; omega, by dsimp only; omega, by dsimp only; omega, by dsimp only; omega⟩
theorem bxs_bd {l : Lb} (h : l.ok = true) : ∀ b ∈ l.items.map bxO, BxD b := by
  obtain ⟨-, hrc, -⟩ := lb_bd0 h
  intro b hb
  obtain ⟨x, hx, rfl⟩ := List.mem_map.1 hb
  rw [lbok_parts, Bool.and_eq_true, Bool.and_eq_true] at h
  obtain ⟨r, c, -, -, hd⟩ := onL_bxD (List.all_eq_true.1 h.2 x hx) hrc.1.2 hrc.2.2
  exact hd
/-- a box in memory -/
theorem bx_at {w : World} {a : Option Addr} {l : List Bx} (h : bxE.At w a l) {i : Nat} {x : Bx} (hr : l[i]? = some x) : ∃ b o, a = some ⟨b, o, none⟩ ∧ b < w.heap.size ∧
    w.cell? ⟨b, o + i * 4, none⟩ = some (.int .i64 x.row) ∧ w.cell? ⟨b, o + i * 4 + 1, none⟩ = some (.int .i64 x.col) ∧ w.cell? ⟨b, o + i * 4 + 2, none⟩ = some (.int .i64 x.rows) ∧ w.cell? ⟨b, o + i * 4 + 3, none⟩ = some (.int .i64 x.cols) := by
  obtain ⟨b, o, e, hc⟩ := h i x hr
  have h0 : w.cell? ⟨b, o + i * 4, none⟩ = some (.int .i64 x.row) := hc 0 _ rfl
  exact ⟨b, o, e, lt_of_cell h0, h0, hc 1 _ rfl, hc 2 _ rfl, hc 3 _ rfl⟩

set_option maxRecDepth 100000 in
set_option maxHeartbeats 4000000 in
theorem overlapItems_any (l : Lb) (a : Option Addr) (c : Nat) (w : World) (hx : itE.At w a l.items) (ht : ∀ x ∈ l.items, x.text.size ≤ 1048576) (hn : l.items.length ≤ 1048576) :
    Calls Tryz.prog 14 #[lbV l a c] w (RetOv w l.ok (ovAll (l.items.map bxO) (l.items.map bxO).length)) := by
  have HC := Lib.hid (fun w (hx : itE.At w a l.items) => boxes_any l a c w hx ht hn)
  have HX := Lib.hid hx
  have HBD := Lib.hid (fun h => bxs_bd (l := l) h)
  have HL12 := Lib.hid (fun h => by have := (lb_bd0 (l := l) h).2.2; exact (show (l.items.map bxO).length ≤ 12 by rw [List.length_map]; exact this))
  obtain ⟨ok, hok⟩ : ∃ ok, ok = l.ok := ⟨_, rfl⟩
  obtain ⟨bs, hbs⟩ : ∃ bs, bs = l.items.map bxO := ⟨_, rfl⟩
  rw [← hok] at HC HBD HL12 ⊢
  rw [← hbs] at HC HBD HL12 ⊢
  clear hx ht hok hn hbs
  obtain ⟨rows, cols, items⟩ := l
  dsimp only at HX HC ⊢
  have HB0 := Lib.hid (ba1 w (.cells #[.int .i64 rows, .int .i64 cols, .slice a items.length c] 29 (0, 0)))
  go_enter Tryz.func14, Tryz.ntmps14
  go_wp2_with fail
  refine (HC.out _ (HX.out.below HB0.out)).mono ?_
  rintro e w1 ⟨hb1, hr⟩
  have HB1 := Lib.hid (bt0 HB0.out hb1 (Nat.le_refl _))
  clear hb1
  rcases hr with ⟨rfl, a1, c1, out, rfl, rfl, how⟩ | ⟨rfl, rfl⟩
  rotate_left
  · go_wp2_with fail
    go_ret2
    exact ⟨HB1.out, .inr ⟨rfl, rfl⟩⟩
  have HOA := Lib.hid how.at
  have HBX := Lib.hid (HBD.out rfl)
  have h12 := HL12.out rfl
  clear how HBD HL12 HC
  go_wp2_with fail
  go_loopw [6, 7, 8, 9, 10, 21] (fun v _ _ _ _ i wr => ∃ (k : Nat) (rs : List (List Int)), k ≤ out.length ∧ i = .int .i64 (k : Int) ∧ rs = ovAll out k ∧ RwsOwn wr w1.heap.size v rs ∧ Below w1.heap.size w1 wr) (fun _ _ _ _ _ i _ => out.length - (intOf i).toNat)
  case atStart => exact ⟨0, [], Nat.zero_le _, rfl, rfl, RwsOwn.new (Nat.le_refl _) rfl, ba1 _ _⟩
  case round =>
    obtain ⟨k, rs, hk, rfl, hrs, ho, hb⟩ := hrel
    obtain ⟨a2, c2, rfl⟩ := ho.read
    have HRS := Lib.hid hrs
    have HO := Lib.hid ho
    have HB := Lib.hid hb
    clear hrs ho hb
    by_cases hlt : k < out.length
    · have hki : (k : Int) < (out.length : Int) := by omega
      obtain ⟨xa, hxa⟩ : ∃ x, out[k]? = some x := by rw [List.getElem?_eq_getElem hlt]; exact ⟨_, rfl⟩
      have HXA := Lib.hid hxa
      obtain ⟨b1, o1, rfl, hbl1, y0, y1, y2, y3⟩ := bx_at (HOA.out.below HB.out) hxa
      obtain ⟨hda0, hda1, hda2, hda3⟩ := HBX.out xa (List.mem_of_getElem? hxa)
      clear hxa
      have KA := Lib.hid (push_at wr (.cells #[.int .i64 xa.row, .int .i64 xa.col, .int .i64 xa.rows, .int .i64 xa.cols] 66 (0, 0)))
      have HBa := Lib.hid (bt0 HB.out (ba1 wr (.cells #[.int .i64 xa.row, .int .i64 xa.col, .int .i64 xa.rows, .int .i64 xa.cols] 66 (0, 0))) (Nat.le_refl _))
      have HOb := Lib.hid (HO.out.grown (ba1 wr (.cells #[.int .i64 xa.row, .int .i64 xa.col, .int .i64 xa.rows, .int .i64 xa.cols] 66 (0, 0))))
      go_wp2_with fail
      clear y0 y1 y2 y3
      obtain ⟨W9, hW9⟩ : ∃ W9, W9 = wr.alloc (.cells #[.int .i64 xa.row, .int .i64 xa.col, .int .i64 xa.rows, .int .i64 xa.cols] 66 (0, 0)) := ⟨_, rfl⟩
      rw [← hW9] at KA HBa HOb ⊢
      have hlA := blkLt KA.out
      have hz1 : w1.heap.size ≤ wr.heap.size := HB.out.size
      obtain ⟨g, hg⟩ : ∃ g, wr.heap.size = g := ⟨_, rfl⟩
      rw [hg] at KA hlA hz1 ⊢
      clear hW9 hbl1 hg HB HO
      go_loopw [6, 9, 10] (fun v i _ wr => ∃ (j : Nat) (ts : List (List Int)), j ≤ out.length ∧ k < j ∧ i = .int .i64 (j : Int) ∧ ts = rs ++ ovTo out k j ∧ RwsOwn wr w1.heap.size v ts ∧ wr.heap[g]? = some (.cells #[.int .i64 xa.row, .int .i64 xa.col, .int .i64 xa.rows, .int .i64 xa.cols] 66 (0, 0)) ∧ Below w1.heap.size w1 wr) (fun _ i _ _ => out.length - (intOf i).toNat)
      case atStart => exact ⟨k + 1, rs, by omega, by omega, by go_num, by rw [ovTo_low _ _ _ (Nat.le_refl _), List.append_nil], HOb.out, KA.out, HBa.out⟩
      case round =>
        clear HOb
        obtain ⟨j, ts, hj, hkj, rfl, hts, ho, hka, hb⟩ := hrel
        obtain ⟨a3, c3, rfl⟩ := ho.read
        have HTS := Lib.hid hts
        have HO := Lib.hid ho
        have HB := Lib.hid hb
        have htl : ts.length ≤ 1000 := by
          rw [hts, HRS.out, List.length_append]
          have h1 := ovAll_len out k
          have h2 := ovTo_len out k j
          have h3 : k * out.length ≤ 12 * 12 := Nat.mul_le_mul (by omega) h12
          omega
        have KAr := Lib.hid hka
        have hzr : w1.heap.size ≤ wr.heap.size := hb.size
        clear hts ho hb hka
        by_cases hltj : j < out.length
        · have hji : (j : Int) < (out.length : Int) := by omega
          obtain ⟨xb, hxb⟩ : ∃ x, out[j]? = some x := by rw [List.getElem?_eq_getElem hltj]; exact ⟨_, rfl⟩
          have HXB := Lib.hid hxb
          obtain ⟨b2, o2, e2, hbl2, z0, z1, z2, z3⟩ := bx_at (HOA.out.below HB.out) hxb
          simp only [Option.some.injEq, Addr.mk.injEq, and_true] at e2
          obtain ⟨rfl, rfl⟩ := e2
          obtain ⟨hdb0, hdb1, hdb2, hdb3⟩ := HBX.out xb (List.mem_of_getElem? hxb)
          clear hxb
          obtain ⟨hcA, hfA⟩ := heap_cellR KAr.out
          have hlAr := blkLt KAr.out
          have HOw := Lib.hid (HO.out.grown (ba1 wr (.cells #[.int .i64 xb.row, .int .i64 xb.col, .int .i64 xb.rows, .int .i64 xb.cols] 66 (0, 0))))
          have KAw := Lib.hid (push_old (A := (.cells #[.int .i64 xb.row, .int .i64 xb.col, .int .i64 xb.rows, .int .i64 xb.cols] 66 (0, 0))) KAr.out)
          have HBw := Lib.hid (bt0 HB.out (ba1 wr (.cells #[.int .i64 xb.row, .int .i64 xb.col, .int .i64 xb.rows, .int .i64 xb.cols] 66 (0, 0))) (Nat.le_refl _))
          have hw1 : wrap64 (xb.row + xb.rows) = xb.row + xb.rows := by unfold wrap64; omega
          have hw2 : wrap64 (xa.row + xa.rows) = xa.row + xa.rows := by unfold wrap64; omega
          have hw3 : wrap64 (xb.col + xb.cols) = xb.col + xb.cols := by unfold wrap64; omega
          have hw4 : wrap64 (xa.col + xa.cols) = xa.col + xa.cols := by unfold wrap64; omega
          by_cases t1 : xa.row < xb.row + xb.rows
          rotate_left
          · have HM := Lib.hid (ovTo_miss (bs := out) (i := k) (k := j) (by rw [bx0_some HXA.out, bx0_some HXB.out, hitB]; simp only [Bool.and_eq_false_imp, Bool.and_eq_true, decide_eq_true_eq, decide_eq_false_iff_not]; omega))
            go_wp2_with fail
            go_roundw
            case rel => exact ⟨j + 1, ts, by omega, by omega, by go_num, by rw [HM.out]; exact HTS.out, HOw.out, KAw.out, HBw.out⟩
            case measure => simp [intOf]; omega
          by_cases t2 : xb.row < xa.row + xa.rows
          rotate_left
          · have HM := Lib.hid (ovTo_miss (bs := out) (i := k) (k := j) (by rw [bx0_some HXA.out, bx0_some HXB.out, hitB]; simp only [Bool.and_eq_false_imp, Bool.and_eq_true, decide_eq_true_eq, decide_eq_false_iff_not]; omega))
            go_wp2_with fail
            go_roundw
            case rel => exact ⟨j + 1, ts, by omega, by omega, by go_num, by rw [HM.out]; exact HTS.out, HOw.out, KAw.out, HBw.out⟩
            case measure => simp [intOf]; omega
          by_cases t3 : xa.col < xb.col + xb.cols
          rotate_left
          · have HM := Lib.hid (ovTo_miss (bs := out) (i := k) (k := j) (by rw [bx0_some HXA.out, bx0_some HXB.out, hitB]; simp only [Bool.and_eq_false_imp, Bool.and_eq_true, decide_eq_true_eq, decide_eq_false_iff_not]; omega))
            go_wp2_with fail
            go_roundw
            case rel => exact ⟨j + 1, ts, by omega, by omega, by go_num, by rw [HM.out]; exact HTS.out, HOw.out, KAw.out, HBw.out⟩
            case measure => simp [intOf]; omega
          by_cases t4 : xb.col < xa.col + xa.cols
          rotate_left
          · have HM := Lib.hid (ovTo_miss (bs := out) (i := k) (k := j) (by rw [bx0_some HXA.out, bx0_some HXB.out, hitB]; simp only [Bool.and_eq_false_imp, Bool.and_eq_true, decide_eq_true_eq, decide_eq_false_iff_not]; omega))
            go_wp2_with fail
            go_roundw
            case rel => exact ⟨j + 1, ts, by omega, by omega, by go_num, by rw [HM.out]; exact HTS.out, HOw.out, KAw.out, HBw.out⟩
            case measure => simp [intOf]; omega
          have HH := Lib.hid (ovTo_hit (bs := out) hkj (by rw [bx0_some HXA.out, bx0_some HXB.out, hitB]; simp only [Bool.and_eq_true, decide_eq_true_eq]; exact ⟨⟨⟨t1, t2⟩, t3⟩, t4⟩))
          have hP2 := Lib.hid (pair_new wr (.cells #[.int .i64 xb.row, .int .i64 xb.col, .int .i64 xb.rows, .int .i64 xb.cols] 66 (0, 0)) (k : Int) (j : Int))
          go_wp2_with (at_builtin; refine wpList_append_rwg (o := _) rfl (.tmp 76) (.tmp 80) rfl w1.heap.size (.slice a3 ts.length c3) ts [(k : Int), (j : Int)] rfl ((HOw.out.grown (ba1 _ _)).grown (ba1 _ _)) (wr.heap.size + 2) (.slice (some ⟨wr.heap.size + 1, 0, none⟩) 2 2) rfl hP2.out.1 hP2.out.2 ?c3 ?c4 ?h8)
          case c3 => omega
          case c4 => simp; omega
          case h8 =>
          intro a8 c8 l8 w8 he8 ho8 hg8 hb8
          have HE8 := Lib.hid (show l8 = rs ++ ovTo out k (j + 1) by rw [he8, HTS.out, HH.out, List.append_assoc])
          have HO8 := Lib.hid ho8
          have HB8 := Lib.hid ((bt0 HBw.out (ba2 _ _ _) (Nat.le_refl _)).trans hb8)
          have KA8 := Lib.hid ((hg8.block g (by simp; omega) (rwsOwn_ne HOw.out KAw.out (by decide)).symm).trans (push_old (push_old KAw.out)))
          clear he8 ho8 hb8 hg8
          go_wp2_with fail
          go_roundw
          case rel => exact ⟨j + 1, l8, by omega, by omega, by go_num, HE8.out, HO8.out, KA8.out, HB8.out⟩
          case measure => simp [intOf]; omega
        · have hji : ¬ (j : Int) < (out.length : Int) := by omega
          have HE := Lib.hid (show ts = ovAll out (k + 1) by rw [HTS.out, HRS.out, show j = out.length by omega]; rfl)
          go_wp2_with fail
          exact ⟨⟨k + 1, ts, by omega, by go_num, HE.out, HO.out, HB.out⟩, by simp [intOf]; omega⟩
    · have hki : ¬ (k : Int) < (out.length : Int) := by omega
      have HE := Lib.hid (show rs = ovAll out out.length by rw [HRS.out, show k = out.length by omega])
      go_wp2_with fail
      go_ret2
      rw [← HE.out]
      exact ⟨HB1.out.trans (HB.out.mono HB1.out.size), .inl ⟨rfl, a2, c2, rfl, rwsOwn_weak HO.out HB1.out.size⟩⟩

end Go.Proofs.YtlcglclojlffgaaGreatDoor
namespace Go.Proofs.YtlcglclojlffgaaGreatDoor
open Go.RowKit

theorem onL_in {l : Lb} {x : It} {r c : Int} (h : boxI x = some (r, c)) : onL l x = (decide (r ≤ l.rows) && decide (c ≤ l.cols) && inB x.row 0 (l.rows - r) && inB x.col 0 (l.cols - c)) := by
  unfold onL
  rw [h, Bool.eq_iff_iff]
  simp only [inB, Bool.and_eq_true, decide_eq_true_eq, and_assoc]
set_option maxRecDepth 100000 in
set_option maxHeartbeats 8000000 in
theorem spIsLabel_any (l : Lb) (a : Option Addr) (c : Nat) (w : World) (hx : itE.At w a l.items) (ht : ∀ x ∈ l.items, x.text.size ≤ 1048576) (hn : l.items.length ≤ 1048576) :
    Calls Tryz.prog 21 #[lbV l a c] w fun e w' => e = .returned (.bool l.ok) ∧ Below w.heap.size w w' := by
  have HOK := Lib.hid (lbok_parts l)
  have HX := Lib.hid hx
  have HT := Lib.hid ht
  obtain ⟨ok, hok⟩ : ∃ ok, ok = l.ok := ⟨_, rfl⟩
  rw [← hok] at HOK ⊢
  clear hx ht hok
  have HSZ := Lib.hid (fun w => l20Size_any l.rows l.cols w)
  have HLl := Lib.hid (show ∀ x r c, boxI x = some (r, c) → onL l x = (decide (r ≤ l.rows) && decide (c ≤ l.cols) && inB x.row 0 (l.rows - r) && inB x.col 0 (l.cols - c)) from fun x r c h => onL_in h)
  have HLn := Lib.hid (show ∀ x, boxI x = none → onL l x = false from fun x h => onL_none h)
  obtain ⟨ON, hON⟩ : ∃ ON, ON = onL l := ⟨_, rfl⟩
  rw [← hON] at HOK HLl HLn
  clear hON
  obtain ⟨rows, cols, items⟩ := l
  dsimp only at hn HOK HX HT HSZ HLl HLn ⊢
  have HB0 := Lib.hid (ba1 w (.cells #[.int .i64 rows, .int .i64 cols, .slice a items.length c] 29 (0, 0)))
  have K0 := Lib.hid (push_at w (.cells #[.int .i64 rows, .int .i64 cols, .slice a items.length c] 29 (0, 0)))
  go_enter Tryz.func21, Tryz.ntmps21
  go_wp2_with fail
  refine (HSZ.out _).mono ?_
  rintro e w' ⟨rfl, rfl⟩
  rcases Bool.eq_false_or_eq_true (sizeB rows cols) with h1 | h1
  rotate_left
  · have HR := Lib.hid (show ok = false by rw [HOK.out, h1]; rfl)
    rw [h1]
    clear h1
    go_wp2_with fail
    go_ret
    exact ⟨ret_bool HR.out.symm, HB0.out⟩
  rw [h1]
  by_cases h12 : items.length ≤ 12
  rotate_left
  · have HR := Lib.hid (show ok = false by rw [HOK.out, decide_eq_false h12, Bool.and_false]; rfl)
    have h12i : (12 : Int) < (items.length : Int) := by omega
    clear h1
    go_wp2_with fail
    go_ret
    exact ⟨ret_bool HR.out.symm, HB0.out⟩
  have h12i : ¬ (12 : Int) < (items.length : Int) := by omega
  have HAll := Lib.hid (show ok = items.all ON by rw [HOK.out, h1, decide_eq_true h12]; rfl)
  have hsb : (1 ≤ rows ∧ rows ≤ 400) ∧ (1 ≤ cols ∧ cols ≤ 400) := by
    rw [sizeB, Bool.and_eq_true, Bool.and_eq_true] at h1
    exact ⟨inB_iff.1 h1.1.1, inB_iff.1 h1.1.2⟩
  clear h1
  go_wp2_with fail
  go_loopw [3] (fun i wr => ∃ k : Nat, k ≤ items.length ∧ i = .int .i64 (k : Int) ∧ (items.take k).all ON = true ∧ Below w.heap.size w wr ∧ wr.heap[w.heap.size]? = some (.cells #[.int .i64 rows, .int .i64 cols, .slice a items.length c] 29 (0, 0))) (fun i _ => items.length - (intOf i).toNat)
  case atStart => exact ⟨0, Nat.zero_le _, rfl, rfl, HB0.out, K0.out⟩
  case round =>
    obtain ⟨k, hk, rfl, hall, hbr, hkr⟩ := hrel
    have HAL := Lib.hid hall
    have HBR := Lib.hid hbr
    have KR := Lib.hid hkr
    have HXr := Lib.hid (HX.out.below hbr)
    obtain ⟨hc1, hf1⟩ := heap_cellR hkr
    have hl1 := blkLt hkr
    clear hall hbr hkr
    by_cases hlt : k < items.length
    · have hki : (k : Int) < (items.length : Int) := by omega
      obtain ⟨x, hx⟩ : ∃ x, items[k]? = some x := by rw [List.getElem?_eq_getElem hlt]; exact ⟨_, rfl⟩
      have HXK := Lib.hid hx
      have htx := HT.out x (List.mem_of_getElem? hx)
      obtain ⟨b, o, rfl, hbl, y0, y1, y2, y3, y4, y5, y6, y7, y8⟩ := it_at HXr.out hx
      have HIB := Lib.hid (fun w => spItemBox_any x w htx)
      have HLl2 := Lib.hid (HLl.out x)
      have HLn2 := Lib.hid (HLn.out x)
      have HBD := Lib.hid (fun r c h => boxI_bd (x := x) (r := r) (c := c) h)
      obtain ⟨BI, hBI⟩ : ∃ BI, BI = boxI x := ⟨_, rfl⟩
      rw [← hBI] at HIB HLl2 HLn2 HBD
      clear hx htx hBI
      obtain ⟨kd, row, col, sc, tall, wide, nm, lev, tx⟩ := x
      dsimp only at y0 y1 y2 y3 y4 y5 y6 y7 y8 HIB HLl2 HLn2
      unfold itV at HIB
      go_wp2_with fail
      have KI := Lib.hid (push_at wr (.cells #[.int .i64 kd, .int .i64 row, .int .i64 col, .int .i64 sc, .int .i64 tall, .int .i64 wide, .string nm, .int .i64 lev, .string tx] 49 (0, 0)))
      have KL := Lib.hid (blkK (ba1 wr (.cells #[.int .i64 kd, .int .i64 row, .int .i64 col, .int .i64 sc, .int .i64 tall, .int .i64 wide, .string nm, .int .i64 lev, .string tx] 49 (0, 0))) KR.out)
      have HBI := Lib.hid (bt0 HBR.out (ba1 wr (.cells #[.int .i64 kd, .int .i64 row, .int .i64 col, .int .i64 sc, .int .i64 tall, .int .i64 wide, .string nm, .int .i64 lev, .string tx] 49 (0, 0))) (Nat.le_refl _))
      refine (HIB.out _).mono ?_
      rintro e w2 ⟨hb2, hr⟩
      have KI2 := Lib.hid (blkK hb2 KI.out)
      have KL2 := Lib.hid (blkK hb2 KL.out)
      have HBJ := Lib.hid (bt0 HBI.out hb2 (Nat.le_refl _))
      clear hb2 hc1 hf1 y0 y1 y2 y3 y4 y5 y6 y7 y8
      obtain ⟨hcI, hfI⟩ := heap_cellR KI2.out
      have hlI := blkLt KI2.out
      obtain ⟨hc2, hf2⟩ := heap_cellR KL2.out
      have hl3 := blkLt KL2.out
      rcases hr with ⟨r, cc, hr, rfl⟩ | ⟨hr, rfl⟩
      rotate_left
      · have HR := Lib.hid (show ok = false by rw [HAll.out]; exact all_noL HXK.out (HLn2.out hr))
        clear hr
        go_wp2_with fail
        go_ret
        exact ⟨ret_bool HR.out.symm, HBJ.out⟩
      have HONe := Lib.hid (HLl2.out r cc hr)
      have hbd := HBD.out r cc hr
      clear hr
      by_cases g1 : r ≤ rows
      rotate_left
      · have HR := Lib.hid (show ok = false by rw [HAll.out]; exact all_noL HXK.out (by rw [HONe.out, decide_eq_false g1]; rfl))
        have g1i : rows < r := by omega
        go_wp2_with fail
        go_ret
        exact ⟨ret_bool HR.out.symm, HBJ.out⟩
      have g1i : ¬ rows < r := by omega
      by_cases g2 : cc ≤ cols
      rotate_left
      · have HR := Lib.hid (show ok = false by rw [HAll.out]; exact all_noL HXK.out (by rw [HONe.out, decide_eq_false g2, Bool.and_false]; rfl))
        have g2i : cols < cc := by omega
        go_wp2_with fail
        go_ret
        exact ⟨ret_bool HR.out.symm, HBJ.out⟩
      have g2i : ¬ cols < cc := by omega
      have hw1 : wrap64 (rows - r) = rows - r := by unfold wrap64; omega
      have hw2 : wrap64 (cols - cc) = cols - cc := by unfold wrap64; omega
      rcases Bool.eq_false_or_eq_true (inB row 0 (rows - r)) with g3 | g3
      rotate_left
      · have HR := Lib.hid (show ok = false by rw [HAll.out]; exact all_noL HXK.out (by rw [HONe.out, g3, Bool.and_false]; rfl))
        go_wp2_with (go_at_call 44; refine (spIn_any _ _ _ _).mono ?_; rw [g3]; rintro e w' ⟨rfl, rfl⟩)
        go_ret
        exact ⟨ret_bool HR.out.symm, HBJ.out⟩
      rcases Bool.eq_false_or_eq_true (inB col 0 (cols - cc)) with g4 | g4
      rotate_left
      · have HR := Lib.hid (show ok = false by rw [HAll.out]; exact all_noL HXK.out (by rw [HONe.out, g4, Bool.and_false]))
        go_wp2_with (go_at_call 44; refine (spIn_any _ _ _ _).mono ?_; (first | rw [g3] | rw [g4]); rintro e w' ⟨rfl, rfl⟩)
        go_ret
        exact ⟨ret_bool HR.out.symm, HBJ.out⟩
      have HR := Lib.hid (all_snocL HXK.out HAL.out (show ON ⟨kd, row, col, sc, tall, wide, nm, lev, tx⟩ = true by rw [HONe.out, decide_eq_true g1, decide_eq_true g2, g3, g4]; rfl))
      go_wp2_with (go_at_call 44; refine (spIn_any _ _ _ _).mono ?_; (first | rw [g3] | rw [g4]); rintro e w' ⟨rfl, rfl⟩)
      exact ⟨⟨k + 1, by omega, by go_num, HR.out, HBJ.out, KL2.out⟩, by simp [intOf]; omega⟩
    · have hki : ¬ (k : Int) < (items.length : Int) := by omega
      have HR := Lib.hid (show ok = true by rw [HAll.out]; have h := HAL.out; rwa [List.take_of_length_le (by omega)] at h)
      go_wp2_with fail
      go_ret
      exact ⟨ret_bool HR.out.symm, HBR.out⟩

end Go.Proofs.YtlcglclojlffgaaGreatDoor
namespace Go.Proofs.YtlcglclojlffgaaGreatDoor
open Go.RowKit

theorem pair_new0 (w : World) (x y : Int) : (((w.alloc (.cells #[.int .i64 x, .int .i64 y] 2 (0, 0))).alloc (.cells #[.slice (some ⟨w.heap.size, 0, none⟩) 2 2] 67 (0, 0))).heap[w.heap.size + 1]? = some (.cells #[.slice (some ⟨w.heap.size, 0, none⟩) 2 2] 67 (0, 0))) ∧
    OwnI ((w.alloc (.cells #[.int .i64 x, .int .i64 y] 2 (0, 0))).alloc (.cells #[.slice (some ⟨w.heap.size, 0, none⟩) 2 2] 67 (0, 0))) 0 (.slice (some ⟨w.heap.size, 0, none⟩) 2 2) [x, y] :=
  ⟨(heap2 w _ _).2, (ownI_two w x y).grown (ba1 _ _)⟩

set_option maxRecDepth 100000 in
set_option maxHeartbeats 4000000 in
theorem spOverlapItems_any (l : Lb) (a : Option Addr) (c : Nat) (w : World) (hx : itE.At w a l.items) (ht : ∀ x ∈ l.items, x.text.size ≤ 1048576) (hn : l.items.length ≤ 1048576) :
    Calls Tryz.prog 15 #[lbV l a c] w (RetOv w l.ok (ovAll (l.items.map bxO) (l.items.map bxO).length)) := by
  have HC := Lib.hid (fun w (hx : itE.At w a l.items) => spIsLabel_any l a c w hx ht hn)
  have HX := Lib.hid hx
  have HT := Lib.hid ht
  have HBD := Lib.hid (show l.ok = true → ∀ x ∈ l.items, ∃ r c, boxI x = some (r, c) ∧ bxO x = ⟨x.row, x.col, r, c⟩ ∧ BxD (bxO x) from fun h x hx => by
    obtain ⟨-, hrc, -⟩ := lb_bd0 h
    rw [lbok_parts, Bool.and_eq_true, Bool.and_eq_true] at h
    exact onL_bxD (List.all_eq_true.1 h.2 x hx) hrc.1.2 hrc.2.2)
  have HL12 := Lib.hid (fun h => (lb_bd0 (l := l) h).2.2)
  obtain ⟨ok, hok⟩ : ∃ ok, ok = l.ok := ⟨_, rfl⟩
  rw [← hok] at HC HBD HL12 ⊢
  clear hx ht hok hn
  obtain ⟨rows, cols, items⟩ := l
  dsimp only at HX HC HBD HL12 HT ⊢
  obtain ⟨bs, hbs⟩ : ∃ bs, bs = items.map bxO := ⟨_, rfl⟩
  have hbl : bs.length = items.length := by rw [hbs, List.length_map]
  have HBS := Lib.hid (show ∀ i x, items[i]? = some x → bx0 bs i = bxO x from fun i x h => bx0_some (by rw [hbs, List.getElem?_map, h]; rfl))
  rw [← hbs, hbl]
  have HBL := Lib.hid hbl
  clear hbs hbl
  have HB0 := Lib.hid (ba1 w (.cells #[.int .i64 rows, .int .i64 cols, .slice a items.length c] 29 (0, 0)))
  have K0 := Lib.hid (push_at w (.cells #[.int .i64 rows, .int .i64 cols, .slice a items.length c] 29 (0, 0)))
  go_enter Tryz.func15, Tryz.ntmps15
  go_wp2_with fail
  refine (HC.out _ (HX.out.below HB0.out)).mono ?_
  rintro e w1 ⟨rfl, hb1⟩
  have HB1 := Lib.hid (bt0 HB0.out hb1 (Nat.le_refl _))
  have K1 := Lib.hid (blkK hb1 K0.out)
  have HX1 := Lib.hid ((HX.out.below HB0.out).below hb1)
  clear hb1
  rcases Bool.eq_false_or_eq_true ok with rfl | rfl
  rotate_left
  · go_wp2_with fail
    go_ret2
    exact ⟨HB1.out, .inr ⟨rfl, rfl⟩⟩
  have HIT := Lib.hid (HBD.out rfl)
  have h12 := HL12.out rfl
  have hl1 := blkLt K1.out
  clear HBD HL12 HC
  go_wp2_with fail
  go_loopw [4, 5, 6, 7, 8, 9, 10, 11, 12, 13, 14] (fun v i _ _ _ _ _ _ _ _ _ wr => ∃ (k : Nat) (rs : List (List Int)), k ≤ items.length ∧ i = .int .i64 (k : Int) ∧ rs = ovAll bs k ∧ RwsOwn wr w1.heap.size v rs ∧ Below w1.heap.size w1 wr) (fun _ i _ _ _ _ _ _ _ _ _ _ => items.length - (intOf i).toNat)
  case atStart => exact ⟨0, [], Nat.zero_le _, rfl, rfl, RwsOwn.new (Nat.le_refl _) rfl, ba1 _ _⟩
  case round =>
    obtain ⟨k, rs, hk, rfl, hrs, ho, hb⟩ := hrel
    obtain ⟨a2, c2, rfl⟩ := ho.read
    have HRS := Lib.hid hrs
    have HO := Lib.hid ho
    have HB := Lib.hid hb
    have KR := Lib.hid (blkK hb K1.out)
    clear hrs ho hb
    obtain ⟨hcr, hfr⟩ := heap_cellR KR.out
    have hlr := blkLt KR.out
    by_cases hlt : k < items.length
    · have hki : (k : Int) < (items.length : Int) := by omega
      obtain ⟨xa, hxa⟩ : ∃ x, items[k]? = some x := by rw [List.getElem?_eq_getElem hlt]; exact ⟨_, rfl⟩
      have HXA := Lib.hid hxa
      obtain ⟨ra, ca, hba, hoa, hda⟩ := HIT.out xa (List.mem_of_getElem? hxa)
      have HIA := Lib.hid (fun w => spItemBox_any xa w (HT.out xa (List.mem_of_getElem? hxa)))
      rw [hba] at HIA
      have HOA := Lib.hid ((HBS.out k xa hxa).trans hoa)
      rw [hoa] at hda
      obtain ⟨hda0, hda1, hda2, hda3⟩ := hda
      dsimp only at hda0 hda1 hda2 hda3
      clear hxa hba hoa
      go_wp2_with fail
      go_loopw [4, 6, 7, 8, 9, 10, 11, 12, 13, 14] (fun v i _ _ _ _ _ _ _ _ wr => ∃ (j : Nat) (ts : List (List Int)), j ≤ items.length ∧ k < j ∧ i = .int .i64 (j : Int) ∧ ts = rs ++ ovTo bs k j ∧ RwsOwn wr w1.heap.size v ts ∧ Below w1.heap.size w1 wr) (fun _ i _ _ _ _ _ _ _ _ _ => items.length - (intOf i).toNat)
      case atStart => exact ⟨k + 1, rs, by omega, by omega, by go_num, by rw [ovTo_low _ _ _ (Nat.le_refl _), List.append_nil], HO.out, HB.out⟩
      case round =>
        clear HO HB KR hcr hfr hlr
        obtain ⟨j, ts, hj, hkj, rfl, hts, ho, hb⟩ := hrel
        obtain ⟨a3, c3, rfl⟩ := ho.read
        have HTS := Lib.hid hts
        have HO := Lib.hid ho
        have HB := Lib.hid hb
        have htl : ts.length ≤ 1000 := by
          rw [hts, HRS.out, List.length_append]
          have h1 := ovAll_len bs k
          have h2 := ovTo_len bs k j
          have h3 : k * bs.length ≤ 12 * 12 := Nat.mul_le_mul (by omega) (by rw [HBL.out]; exact h12)
          omega
        have KR := Lib.hid (blkK hb K1.out)
        have hzr : w1.heap.size ≤ wr.heap.size := hb.size
        clear hts ho hb
        obtain ⟨hcr, hfr⟩ := heap_cellR KR.out
        have hlr := blkLt KR.out
        by_cases hltj : j < items.length
        · have hji : (j : Int) < (items.length : Int) := by omega
          obtain ⟨xb, hxb⟩ : ∃ x, items[j]? = some x := by rw [List.getElem?_eq_getElem hltj]; exact ⟨_, rfl⟩
          have HXB := Lib.hid hxb
          obtain ⟨rb, cb, hbb, hob, hdb⟩ := HIT.out xb (List.mem_of_getElem? hxb)
          have HIB := Lib.hid (fun w => spItemBox_any xb w (HT.out xb (List.mem_of_getElem? hxb)))
          rw [hbb] at HIB
          have HOB := Lib.hid ((HBS.out j xb hxb).trans hob)
          rw [hob] at hdb
          obtain ⟨hdb0, hdb1, hdb2, hdb3⟩ := hdb
          dsimp only at hdb0 hdb1 hdb2 hdb3
          obtain ⟨b1, o1, rfl, hbl1, y0, y1, y2, y3, y4, y5, y6, y7, y8⟩ := it_at (HX1.out.below HB.out) HXA.out
          obtain ⟨b2, o2, e2, hbl2, z0, z1, z2, z3, z4, z5, z6, z7, z8⟩ := it_at (HX1.out.below HB.out) hxb
          simp only [Option.some.injEq, Addr.mk.injEq, and_true] at e2
          obtain ⟨rfl, rfl⟩ := e2
          clear hxb hbb hob
          go_wp2_with fail
          go_cut [7, 8] from 35 to 44 (fun pa pb wx => ∃ ga gb : Nat, pa = .pointer (some ⟨ga, 0, none⟩) ∧ pb = .pointer (some ⟨gb, 0, none⟩) ∧ wx.heap[ga]? = some (.cells #[.int .i64 xa.kind, .int .i64 xa.row, .int .i64 xa.col, .int .i64 xa.scale, .int .i64 xa.tall, .int .i64 xa.wide, .string xa.name, .int .i64 xa.level, .string xa.text] 49 (0, 0)) ∧ wx.heap[gb]? = some (.cells #[.int .i64 xb.kind, .int .i64 xb.row, .int .i64 xb.col, .int .i64 xb.scale, .int .i64 xb.tall, .int .i64 xb.wide, .string xb.name, .int .i64 xb.level, .string xb.text] 49 (0, 0)) ∧ Below wr.heap.size wr wx)
          case first =>
            go_region
            · go_wp2_with fail
              go_meet
              exact ⟨wr.heap.size, wr.heap.size + 1, rfl, rfl, (heap2 wr _ _).1, (heap2 wr _ _).2, (ba2 _ _ _).drew⟩
            · go_wp2_with fail
              go_meet
              exact ⟨wr.heap.size + 1, wr.heap.size, rfl, rfl, (heap2 wr _ _).2, (heap2 wr _ _).1, (ba2 _ _ _).drew⟩
          case rest =>
          clear y0 y1 y2 y3 y4 y5 y6 y7 y8 z0 z1 z2 z3 z4 z5 z6 z7 z8 hcr hfr hlr hbl1 hbl2
          obtain ⟨ga, gb, rfl, rfl, hka, hkb, hb2⟩ := hcut
          have KA := Lib.hid hka
          have KB := Lib.hid hkb
          have HB2 := Lib.hid (bt0 HB.out hb2 (Nat.le_refl _))
          have HO2 := Lib.hid (HO.out.grown hb2)
          clear hka hkb hb2
          obtain ⟨hcA, hfA⟩ := heap_cellR KA.out
          have hlA := blkLt KA.out
          unfold itV at HIA HIB
          go_wp2_with fail
          refine (HIA.out _).mono ?_
          rintro e w3 ⟨hb3, hr⟩
          rcases hr with ⟨r', c', hrc, rfl⟩ | ⟨hno, -⟩
          rotate_left
          · cases hno
          have KA3 := Lib.hid (blkK hb3 KA.out)
          have KB3 := Lib.hid (blkK hb3 KB.out)
          have HB3 := Lib.hid (bt0 HB2.out hb3 (Nat.le_refl _))
          have HO3 := Lib.hid (HO2.out.grown hb3)
          simp only [Option.some.injEq, Prod.mk.injEq] at hrc
          obtain ⟨rfl, rfl⟩ := hrc
          clear hb3 hcA hfA hlA
          obtain ⟨hcB, hfB⟩ := heap_cellR KB3.out
          have hlB := blkLt KB3.out
          go_wp2_with fail
          refine (HIB.out _).mono ?_
          rintro e w4 ⟨hb4, hr⟩
          rcases hr with ⟨r', c', hrc, rfl⟩ | ⟨hno, -⟩
          rotate_left
          · cases hno
          have KA4 := Lib.hid (blkK hb4 KA3.out)
          have KB4 := Lib.hid (blkK hb4 KB3.out)
          have HB4 := Lib.hid (bt0 HB3.out hb4 (Nat.le_refl _))
          have HO4 := Lib.hid (HO3.out.grown hb4)
          simp only [Option.some.injEq, Prod.mk.injEq] at hrc
          obtain ⟨rfl, rfl⟩ := hrc
          clear hb4 hcB hfB hlB
          obtain ⟨hcA, hfA⟩ := heap_cellR KA4.out
          have hlA := blkLt KA4.out
          obtain ⟨hcB, hfB⟩ := heap_cellR KB4.out
          have hlB := blkLt KB4.out
          have hw1 : wrap64 (xb.row + rb) = xb.row + rb := by unfold wrap64; omega
          have hw2 : wrap64 (xa.row + ra) = xa.row + ra := by unfold wrap64; omega
          have hw3 : wrap64 (xb.col + cb) = xb.col + cb := by unfold wrap64; omega
          have hw4 : wrap64 (xa.col + ca) = xa.col + ca := by unfold wrap64; omega
          have hz4 : w1.heap.size ≤ w4.heap.size := HB4.out.size
          by_cases t1 : xa.row < xb.row + rb
          rotate_left
          · have HM := Lib.hid (ovTo_miss (bs := bs) (i := k) (k := j) (by rw [HOA.out, HOB.out, hitB]; simp only [Bool.and_eq_false_imp, Bool.and_eq_true, decide_eq_true_eq, decide_eq_false_iff_not]; omega))
            go_wp2_with fail
            go_roundw
            case rel => exact ⟨j + 1, ts, by omega, by omega, by go_num, by rw [HM.out]; exact HTS.out, HO4.out, HB4.out⟩
            case measure => simp [intOf]; omega
          by_cases t2 : xb.row < xa.row + ra
          rotate_left
          · have HM := Lib.hid (ovTo_miss (bs := bs) (i := k) (k := j) (by rw [HOA.out, HOB.out, hitB]; simp only [Bool.and_eq_false_imp, Bool.and_eq_true, decide_eq_true_eq, decide_eq_false_iff_not]; omega))
            go_wp2_with fail
            go_roundw
            case rel => exact ⟨j + 1, ts, by omega, by omega, by go_num, by rw [HM.out]; exact HTS.out, HO4.out, HB4.out⟩
            case measure => simp [intOf]; omega
          by_cases t3 : xa.col < xb.col + cb
          rotate_left
          · have HM := Lib.hid (ovTo_miss (bs := bs) (i := k) (k := j) (by rw [HOA.out, HOB.out, hitB]; simp only [Bool.and_eq_false_imp, Bool.and_eq_true, decide_eq_true_eq, decide_eq_false_iff_not]; omega))
            go_wp2_with fail
            go_roundw
            case rel => exact ⟨j + 1, ts, by omega, by omega, by go_num, by rw [HM.out]; exact HTS.out, HO4.out, HB4.out⟩
            case measure => simp [intOf]; omega
          by_cases t4 : xb.col < xa.col + ca
          rotate_left
          · have HM := Lib.hid (ovTo_miss (bs := bs) (i := k) (k := j) (by rw [HOA.out, HOB.out, hitB]; simp only [Bool.and_eq_false_imp, Bool.and_eq_true, decide_eq_true_eq, decide_eq_false_iff_not]; omega))
            go_wp2_with fail
            go_roundw
            case rel => exact ⟨j + 1, ts, by omega, by omega, by go_num, by rw [HM.out]; exact HTS.out, HO4.out, HB4.out⟩
            case measure => simp [intOf]; omega
          have HH := Lib.hid (ovTo_hit (bs := bs) hkj (by rw [HOA.out, HOB.out, hitB]; simp only [Bool.and_eq_true, decide_eq_true_eq]; exact ⟨⟨⟨t1, t2⟩, t3⟩, t4⟩))
          have hP2 := Lib.hid (pair_new0 w4 (k : Int) (j : Int))
          go_wp2_with (at_builtin; refine wpList_append_rw (o := _) rfl (.tmp 91) (.tmp 95) rfl w1.heap.size (.slice a3 ts.length c3) ts [(k : Int), (j : Int)] rfl ((HO4.out.grown (ba1 _ _)).grown (ba1 _ _)) (w4.heap.size + 1) (.slice (some ⟨w4.heap.size, 0, none⟩) 2 2) rfl hP2.out.1 hP2.out.2 ?c3 ?c4 ?h8)
          case c3 => omega
          case c4 => simp; omega
          case h8 =>
          intro a8 c8 l8 w8 he8 ho8 hb8
          have HE8 := Lib.hid (show l8 = rs ++ ovTo bs k (j + 1) by rw [he8, HTS.out, HH.out, List.append_assoc])
          have HO8 := Lib.hid ho8
          have HB8 := Lib.hid ((bt0 HB4.out (ba2 _ _ _) (Nat.le_refl _)).trans hb8)
          clear he8 ho8 hb8
          go_wp2_with fail
          go_roundw
          case rel => exact ⟨j + 1, l8, by omega, by omega, by go_num, HE8.out, HO8.out, HB8.out⟩
          case measure => simp [intOf]; omega
        · have hji : ¬ (j : Int) < (items.length : Int) := by omega
          have HE := Lib.hid (show ts = ovAll bs (k + 1) by rw [HTS.out, HRS.out, show j = bs.length by rw [HBL.out]; omega]; rfl)
          go_wp2_with fail
          exact ⟨⟨k + 1, ts, by omega, by go_num, HE.out, HO.out, HB.out⟩, by simp [intOf]; omega⟩
    · have hki : ¬ (k : Int) < (items.length : Int) := by omega
      have HE := Lib.hid (show rs = ovAll bs items.length by rw [HRS.out, show k = items.length by omega])
      go_wp2_with fail
      go_ret2
      rw [← HE.out]
      exact ⟨HB1.out.trans (HB.out.mono HB1.out.size), .inl ⟨rfl, a2, c2, rfl, rwsOwn_weak HO.out HB1.out.size⟩⟩

end Go.Proofs.YtlcglclojlffgaaGreatDoor
namespace Go.Proofs.YtlcglclojlffgaaGreatDoor
open Go.RowKit

theorem wordsX_bd (xs : List Int) (h : ∀ x ∈ xs, 0 ≤ x ∧ x ≤ 1000000) : (wordsX xs).length ≤ 22 * xs.length :=
  wordsX_len xs fun x hx => by
    have h1 := h x hx
    have h2 := Lib.itoa_length_le x (by omega) (by omega)
    omega
set_option maxRecDepth 100000 in
set_option maxHeartbeats 2000000 in
theorem spWords_any (a : Option Addr) (xs : List Int) (c : Nat) (w : World) (hx : IntsAt w a xs) (h : ∀ x ∈ xs, 0 ≤ x ∧ x ≤ 1000000) (hl : xs.length ≤ 1000) :
    Calls Tryz.prog 22 #[.slice a xs.length c] w fun e w' => e = .returned (.string ⟨(wordsX xs).toArray⟩) ∧ Below w.heap.size w w' := by
  have HX := Lib.hid hx
  have HH := Lib.hid h
  clear hx h
  go_enter Tryz.func22, Tryz.ntmps22
  go_wp2_with fail
  go_loopw [3, 4] (fun v i wr => ∃ (k : Nat) (V : ByteArray), k ≤ xs.length ∧ i = .int .i64 (k : Int) ∧ v = .string V ∧ V.data.toList = wordsX (xs.take k) ∧ Below w.heap.size w wr) (fun _ i _ => xs.length - (intOf i).toNat)
  case atStart => exact ⟨0, _, Nat.zero_le _, rfl, rfl, rfl, Below.refl _ _⟩
  case round =>
    obtain ⟨k, V, hk, rfl, rfl, hV, hbr⟩ := hrel
    have HV := Lib.hid hV
    have HBR := Lib.hid hbr
    have hVs : V.size ≤ 22000 := by
      have h1 := wordsX_bd (xs.take k) (fun x hx => HH.out x (List.mem_of_mem_take hx))
      have h2 : V.size = (wordsX (xs.take k)).length := by rw [← hV]; rfl
      rw [List.length_take] at h1
      omega
    clear hV hbr
    by_cases hlt : k < xs.length
    · have hki : (k : Int) < (xs.length : Int) := by omega
      obtain ⟨b1, o1, x, rfl, hxk, hb1, hcx⟩ := (HX.out.below HBR.out).at hlt
      have hxb := HH.out x (List.mem_of_getElem? hxk)
      have HXK := Lib.hid hxk
      clear hxk
      have hk1 : ¬ 9223372036854775807 < V.size + 1 := by omega
      obtain ⟨E, hE⟩ : ∃ E, E = decB x := ⟨_, rfl⟩
      have hEs : E.size ≤ 22 := by
        rw [hE, decB_size]
        have := Lib.itoa_length_le x (by omega) (by omega)
        omega
      have hk2 : ¬ 9223372036854775807 < V.size + 1 + E.size := by omega
      have HNX := Lib.hid (show (V ++ ⟨#[32]⟩ ++ E : ByteArray).data.toList = wordsX (xs.take (k + 1)) by rw [take_snoc' HXK.out, wordsX_snoc, ← HV.out, hE]; simp [decB])
      have HEe := Lib.hid hE
      clear hE
      go_wp2_with fail
      refine (l01Dec_any x.toNat x _ (by omega) hxb.1 (by omega)).mono ?_
      rw [← HEe.out]
      rintro e w2 ⟨rfl, hb2⟩
      have HB2 := Lib.hid (bt0 HBR.out hb2 (Nat.le_refl _))
      clear hb2
      go_wp2_with fail
      exact ⟨⟨k + 1, _, by omega, by go_num, rfl, HNX.out, HB2.out⟩, by simp [intOf]; omega⟩
    · have hki : ¬ (k : Int) < (xs.length : Int) := by omega
      have hke := Lib.hid (show V.data.toList = wordsX xs by have h := HV.out; rwa [List.take_of_length_le (by omega)] at h)
      go_wp2_with fail
      go_ret
      exact ⟨ret_str (ba_eq hke.out), HBR.out⟩
set_option maxRecDepth 100000 in
set_option maxHeartbeats 8000000 in
theorem spLine1_any (kd row col sc tall wide lev : Int) (nm tx : ByteArray) (w : World) (hk : kd = 1) (hrow : 0 ≤ row ∧ row ≤ 400) (hcol : 0 ≤ col ∧ col ≤ 400) (hsc : 0 ≤ sc ∧ sc ≤ 8) (_htall : 0 ≤ tall ∧ tall ≤ 400) (_hwide : 0 ≤ wide ∧ wide ≤ 400) (_hlev : 0 ≤ lev ∧ lev ≤ 4) (_hnm : nm.size ≤ 8) (htx : tx.size ≤ 400) :
    Calls Tryz.prog 23 #[itV ⟨kd, row, col, sc, tall, wide, nm, lev, tx⟩] w fun e w' => e = .returned (.string ⟨(lineI ⟨kd, row, col, sc, tall, wide, nm, lev, tx⟩).toArray⟩) ∧ Below w.heap.size w w' := by
  subst hk
  have HDC := Lib.hid (fun a c w' (h : IntsAt w' a [row, col, sc]) => spWords_any a [row, col, sc] c w' h (by intro x hx; simp only [List.mem_cons, List.not_mem_nil, or_false] at hx; rcases hx with rfl | rfl | rfl <;> omega) (by simp))
  obtain ⟨D, hD⟩ : ∃ D, D = (⟨(wordsX [row, col, sc]).toArray⟩ : ByteArray) := ⟨_, rfl⟩
  rw [← hD] at HDC
  have HDe := Lib.hid hD
  have hDs : D.size ≤ 88 := by
    rw [hD]
    exact Nat.le_trans (wordsX_bd [row, col, sc] (by intro x hx; simp only [List.mem_cons, List.not_mem_nil, or_false] at hx; rcases hx with rfl | rfl | rfl <;> omega)) (by simp)
  have hcat0 : ¬ 9223372036854775807 < 4 + D.size := by omega
  have hcat1 : ¬ 9223372036854775807 < 4 + D.size + 1 := by omega
  have hcat2 : ¬ 9223372036854775807 < 4 + D.size + 1 + tx.size := by omega
  have hK := push_at w (.cells #[.int .i64 1, .int .i64 row, .int .i64 col, .int .i64 sc, .int .i64 tall, .int .i64 wide, .string nm, .int .i64 lev, .string tx] 49 (0, 0))
  have hB := ba1 w (.cells #[.int .i64 1, .int .i64 row, .int .i64 col, .int .i64 sc, .int .i64 tall, .int .i64 wide, .string nm, .int .i64 lev, .string tx] 49 (0, 0))
  obtain ⟨W, hW⟩ : ∃ W, W = w.alloc (.cells #[.int .i64 1, .int .i64 row, .int .i64 col, .int .i64 sc, .int .i64 tall, .int .i64 wide, .string nm, .int .i64 lev, .string tx] 49 (0, 0)) := ⟨_, rfl⟩
  have HW := Lib.hid hW
  rw [← hW] at hK hB
  have K := Lib.hid hK
  have HB := Lib.hid hB
  clear hK hB hW hD
  go_enter Tryz.func23, Tryz.ntmps23
  go_wp2_with fail
  rw [← HW.out]
  refine wp_region_rt (Keep := KB) [7, 8, 9, 10, 11, 12, 13, 14, 15, 16, 17, 18, 19] (fun us => _)
    [spE (.pointer (some ⟨w.heap.size, 1, none⟩)),
     spE (.int .i64 row),
     spE (.pointer (some ⟨w.heap.size, 2, none⟩)),
     spE (.int .i64 col),
     spE (.pointer (some ⟨w.heap.size, 3, none⟩)),
     spE (.int .i64 sc),
     spIs [row, col, sc],
     spE (.string D),
     spE (.string ((⟨#[116, 101, 120, 116]⟩ : ByteArray) ++ D)),
     spE (.string ((⟨#[116, 101, 120, 116]⟩ : ByteArray) ++ D ++ (⟨#[32]⟩ : ByteArray))),
     spE (.pointer (some ⟨w.heap.size, 8, none⟩)),
     spE (.string tx),
     spE (.string ((⟨#[116, 101, 120, 116]⟩ : ByteArray) ++ D ++ (⟨#[32]⟩ : ByteArray) ++ tx))]
    (StX W) (by kernel_rfl) (by kernel_rfl) (Nat.le_of_ble_eq_true rfl) (fun us => by simp [over, List.mapIdx_cons]; exact rfl) (stX0 _) kbr ?_ ?_
  · refine ⟨?_, ?_, ?_, ?_, ?_, ?_, ?_, ?_, ?_, ?_, ?_, ?_, ?_, trivial⟩
    all_goals (intro us wx hst hd; rw [if_pos (by kernel_rfl)]; dsimp only)
    · clear hd
      go_simp
      exact kb_same hst rfl
    · have d7 : us 7 = (.pointer (some ⟨w.heap.size, 1, none⟩)) := hd ⟨0, .data⟩ (by simp) rfl
      clear hd
      obtain ⟨hcX, hfX⟩ := heap_cellR (blkK hst K.out)
      have hlX := blkLt (blkK hst K.out)
      go_simp
      exact kb_same hst rfl
    · clear hd
      go_simp
      exact kb_same hst rfl
    · have d9 : us 9 = (.pointer (some ⟨w.heap.size, 2, none⟩)) := hd ⟨2, .data⟩ (by simp) rfl
      clear hd
      obtain ⟨hcX, hfX⟩ := heap_cellR (blkK hst K.out)
      have hlX := blkLt (blkK hst K.out)
      go_simp
      exact kb_same hst rfl
    · clear hd
      go_simp
      exact kb_same hst rfl
    · have d11 : us 11 = (.pointer (some ⟨w.heap.size, 3, none⟩)) := hd ⟨4, .data⟩ (by simp) rfl
      clear hd
      obtain ⟨hcX, hfX⟩ := heap_cellR (blkK hst K.out)
      have hlX := blkLt (blkK hst K.out)
      go_simp
      exact kb_same hst rfl
    · have d8 : us 8 = (.int .i64 row) := hd ⟨1, .data⟩ (by simp) rfl
      have d10 : us 10 = (.int .i64 col) := hd ⟨3, .data⟩ (by simp) rfl
      have d12 : us 12 = (.int .i64 sc) := hd ⟨5, .data⟩ (by simp) rfl
      clear hd
      go_simp
      exact kb_below hst (ba1 _ _) ⟨_, _, rfl, ints_lit2 (push_at _ _) rfl⟩
    · have d13 := hd ⟨6, .data⟩ (by simp) rfl
      clear hd
      obtain ⟨a12, c12, e12, h12⟩ : IsV [row, col, sc] (us 13) wx := d13
      have h9 := HDC.out a12 c12 wx h12
      go_simp
      exact h9.mono fun e w' ⟨he, hb⟩ => ⟨_, he, kb_below hst hb rfl⟩
    · have d14 : us 14 = (.string D) := hd ⟨7, .data⟩ (by simp) rfl
      clear hd
      go_simp
      exact kb_same hst rfl
    · have d15 : us 15 = (.string ((⟨#[116, 101, 120, 116]⟩ : ByteArray) ++ D)) := hd ⟨8, .data⟩ (by simp) rfl
      clear hd
      go_simp
      exact kb_same hst rfl
    · clear hd
      go_simp
      exact kb_same hst rfl
    · have d17 : us 17 = (.pointer (some ⟨w.heap.size, 8, none⟩)) := hd ⟨10, .data⟩ (by simp) rfl
      clear hd
      obtain ⟨hcX, hfX⟩ := heap_cellR (blkK hst K.out)
      have hlX := blkLt (blkK hst K.out)
      go_simp
      exact kb_same hst rfl
    · have d16 : us 16 = (.string ((⟨#[116, 101, 120, 116]⟩ : ByteArray) ++ D ++ (⟨#[32]⟩ : ByteArray))) := hd ⟨9, .data⟩ (by simp) rfl
      have d18 : us 18 = (.string tx) := hd ⟨11, .data⟩ (by simp) rfl
      clear hd
      go_simp
      exact kb_same hst rfl
  · intro us wx hst hd
    have d19 : us 19 = (.string ((⟨#[116, 101, 120, 116]⟩ : ByteArray) ++ D ++ (⟨#[32]⟩ : ByteArray) ++ tx)) := hd 12 (by simp)
    clear hd
    simp only [List.drop, List.length]
    rw [d19]
    have HST := Lib.hid hst
    clear hst
    go_wp2_with fail
    go_ret
    refine ⟨ret_str (ba_eq ?_), bt0 HB.out HST.out (Nat.le_refl _)⟩
    rw [lineI, if_pos rfl, HDe.out]
    simp
set_option maxRecDepth 100000 in
set_option maxHeartbeats 8000000 in
theorem spLine3_any (kd row col sc tall wide lev : Int) (nm tx : ByteArray) (w : World) (hk : kd = 3) (hrow : 0 ≤ row ∧ row ≤ 400) (hcol : 0 ≤ col ∧ col ≤ 400) (hsc : 0 ≤ sc ∧ sc ≤ 8) (_htall : 0 ≤ tall ∧ tall ≤ 400) (_hwide : 0 ≤ wide ∧ wide ≤ 400) (hlev : 0 ≤ lev ∧ lev ≤ 4) (hnm : nm.size ≤ 8) (htx : tx.size ≤ 400) :
    Calls Tryz.prog 23 #[itV ⟨kd, row, col, sc, tall, wide, nm, lev, tx⟩] w fun e w' => e = .returned (.string ⟨(lineI ⟨kd, row, col, sc, tall, wide, nm, lev, tx⟩).toArray⟩) ∧ Below w.heap.size w w' := by
  subst hk
  have HDC := Lib.hid (fun a c w' (h : IntsAt w' a [row, col, sc]) => spWords_any a [row, col, sc] c w' h (by intro x hx; simp only [List.mem_cons, List.not_mem_nil, or_false] at hx; rcases hx with rfl | rfl | rfl <;> omega) (by simp))
  obtain ⟨D, hD⟩ : ∃ D, D = (⟨(wordsX [row, col, sc]).toArray⟩ : ByteArray) := ⟨_, rfl⟩
  rw [← hD] at HDC
  have HDe := Lib.hid hD
  have hDs : D.size ≤ 88 := by
    rw [hD]
    exact Nat.le_trans (wordsX_bd [row, col, sc] (by intro x hx; simp only [List.mem_cons, List.not_mem_nil, or_false] at hx; rcases hx with rfl | rfl | rfl <;> omega)) (by simp)
  have HDE := Lib.hid (fun a c w' (h : IntsAt w' a [lev]) => spWords_any a [lev] c w' h (by intro x hx; simp only [List.mem_cons, List.not_mem_nil, or_false] at hx; rcases hx with rfl <;> omega) (by simp))
  obtain ⟨E, hE⟩ : ∃ E, E = (⟨(wordsX [lev]).toArray⟩ : ByteArray) := ⟨_, rfl⟩
  rw [← hE] at HDE
  have HEe := Lib.hid hE
  have hEs : E.size ≤ 22 := by
    rw [hE]
    exact Nat.le_trans (wordsX_bd [lev] (by intro x hx; simp only [List.mem_cons, List.not_mem_nil, or_false] at hx; rcases hx with rfl <;> omega)) (by simp)
  clear hE
  have hcat0 : ¬ 9223372036854775807 < 6 + D.size := by omega
  have hcat1 : ¬ 9223372036854775807 < 6 + D.size + 1 := by omega
  have hcat2 : ¬ 9223372036854775807 < 6 + D.size + 1 + nm.size := by omega
  have hcat3 : ¬ 9223372036854775807 < 6 + D.size + 1 + nm.size + E.size := by omega
  have hcat4 : ¬ 9223372036854775807 < 6 + D.size + 1 + nm.size + E.size + 1 := by omega
  have hcat5 : ¬ 9223372036854775807 < 6 + D.size + 1 + nm.size + E.size + 1 + tx.size := by omega
  have hK := push_at w (.cells #[.int .i64 3, .int .i64 row, .int .i64 col, .int .i64 sc, .int .i64 tall, .int .i64 wide, .string nm, .int .i64 lev, .string tx] 49 (0, 0))
  have hB := ba1 w (.cells #[.int .i64 3, .int .i64 row, .int .i64 col, .int .i64 sc, .int .i64 tall, .int .i64 wide, .string nm, .int .i64 lev, .string tx] 49 (0, 0))
  obtain ⟨W, hW⟩ : ∃ W, W = w.alloc (.cells #[.int .i64 3, .int .i64 row, .int .i64 col, .int .i64 sc, .int .i64 tall, .int .i64 wide, .string nm, .int .i64 lev, .string tx] 49 (0, 0)) := ⟨_, rfl⟩
  have HW := Lib.hid hW
  rw [← hW] at hK hB
  have K := Lib.hid hK
  have HB := Lib.hid hB
  clear hK hB hW hD
  go_enter Tryz.func23, Tryz.ntmps23
  go_wp2_with fail
  rw [← HW.out]
  refine wp_region_rt (Keep := KB) [33, 34, 35, 36, 37, 38, 39, 40, 41, 42, 43, 44, 45, 46, 47, 48, 49, 50, 51, 52, 53, 54] (fun us => _)
    [spE (.pointer (some ⟨w.heap.size, 1, none⟩)),
     spE (.int .i64 row),
     spE (.pointer (some ⟨w.heap.size, 2, none⟩)),
     spE (.int .i64 col),
     spE (.pointer (some ⟨w.heap.size, 3, none⟩)),
     spE (.int .i64 sc),
     spIs [row, col, sc],
     spE (.string D),
     spE (.string ((⟨#[115, 121, 109, 98, 111, 108]⟩ : ByteArray) ++ D)),
     spE (.string ((⟨#[115, 121, 109, 98, 111, 108]⟩ : ByteArray) ++ D ++ (⟨#[32]⟩ : ByteArray))),
     spE (.pointer (some ⟨w.heap.size, 6, none⟩)),
     spE (.string nm),
     spE (.string ((⟨#[115, 121, 109, 98, 111, 108]⟩ : ByteArray) ++ D ++ (⟨#[32]⟩ : ByteArray) ++ nm)),
     spE (.pointer (some ⟨w.heap.size, 7, none⟩)),
     spE (.int .i64 lev),
     spIs [lev],
     spE (.string E),
     spE (.string ((⟨#[115, 121, 109, 98, 111, 108]⟩ : ByteArray) ++ D ++ (⟨#[32]⟩ : ByteArray) ++ nm ++ E)),
     spE (.string ((⟨#[115, 121, 109, 98, 111, 108]⟩ : ByteArray) ++ D ++ (⟨#[32]⟩ : ByteArray) ++ nm ++ E ++ (⟨#[32]⟩ : ByteArray))),
     spE (.pointer (some ⟨w.heap.size, 8, none⟩)),
     spE (.string tx),
     spE (.string ((⟨#[115, 121, 109, 98, 111, 108]⟩ : ByteArray) ++ D ++ (⟨#[32]⟩ : ByteArray) ++ nm ++ E ++ (⟨#[32]⟩ : ByteArray) ++ tx))]
    (StX W) (by kernel_rfl) (by kernel_rfl) (Nat.le_of_ble_eq_true rfl) (fun us => by simp [over, List.mapIdx_cons]; exact rfl) (stX0 _) kbr ?_ ?_
  · refine ⟨?_, ?_, ?_, ?_, ?_, ?_, ?_, ?_, ?_, ?_, ?_, ?_, ?_, ?_, ?_, ?_, ?_, ?_, ?_, ?_, ?_, ?_, trivial⟩
    all_goals (intro us wx hst hd; rw [if_pos (by kernel_rfl)]; dsimp only)
    · clear hd
      go_simp
      exact kb_same hst rfl
    · have d33 : us 33 = (.pointer (some ⟨w.heap.size, 1, none⟩)) := hd ⟨0, .data⟩ (by simp) rfl
      clear hd
      obtain ⟨hcX, hfX⟩ := heap_cellR (blkK hst K.out)
      have hlX := blkLt (blkK hst K.out)
      go_simp
      exact kb_same hst rfl
    · clear hd
      go_simp
      exact kb_same hst rfl
    · have d35 : us 35 = (.pointer (some ⟨w.heap.size, 2, none⟩)) := hd ⟨2, .data⟩ (by simp) rfl
      clear hd
      obtain ⟨hcX, hfX⟩ := heap_cellR (blkK hst K.out)
      have hlX := blkLt (blkK hst K.out)
      go_simp
      exact kb_same hst rfl
    · clear hd
      go_simp
      exact kb_same hst rfl
    · have d37 : us 37 = (.pointer (some ⟨w.heap.size, 3, none⟩)) := hd ⟨4, .data⟩ (by simp) rfl
      clear hd
      obtain ⟨hcX, hfX⟩ := heap_cellR (blkK hst K.out)
      have hlX := blkLt (blkK hst K.out)
      go_simp
      exact kb_same hst rfl
    · have d34 : us 34 = (.int .i64 row) := hd ⟨1, .data⟩ (by simp) rfl
      have d36 : us 36 = (.int .i64 col) := hd ⟨3, .data⟩ (by simp) rfl
      have d38 : us 38 = (.int .i64 sc) := hd ⟨5, .data⟩ (by simp) rfl
      clear hd
      go_simp
      exact kb_below hst (ba1 _ _) ⟨_, _, rfl, ints_lit2 (push_at _ _) rfl⟩
    · have d39 := hd ⟨6, .data⟩ (by simp) rfl
      clear hd
      obtain ⟨a12, c12, e12, h12⟩ : IsV [row, col, sc] (us 39) wx := d39
      have h9 := HDC.out a12 c12 wx h12
      go_simp
      exact h9.mono fun e w' ⟨he, hb⟩ => ⟨_, he, kb_below hst hb rfl⟩
    · have d40 : us 40 = (.string D) := hd ⟨7, .data⟩ (by simp) rfl
      clear hd
      go_simp
      exact kb_same hst rfl
    · have d41 : us 41 = (.string ((⟨#[115, 121, 109, 98, 111, 108]⟩ : ByteArray) ++ D)) := hd ⟨8, .data⟩ (by simp) rfl
      clear hd
      go_simp
      exact kb_same hst rfl
    · clear hd
      go_simp
      exact kb_same hst rfl
    · have d43 : us 43 = (.pointer (some ⟨w.heap.size, 6, none⟩)) := hd ⟨10, .data⟩ (by simp) rfl
      clear hd
      obtain ⟨hcX, hfX⟩ := heap_cellR (blkK hst K.out)
      have hlX := blkLt (blkK hst K.out)
      go_simp
      exact kb_same hst rfl
    · have d42 : us 42 = (.string ((⟨#[115, 121, 109, 98, 111, 108]⟩ : ByteArray) ++ D ++ (⟨#[32]⟩ : ByteArray))) := hd ⟨9, .data⟩ (by simp) rfl
      have d44 : us 44 = (.string nm) := hd ⟨11, .data⟩ (by simp) rfl
      clear hd
      go_simp
      exact kb_same hst rfl
    · clear hd
      go_simp
      exact kb_same hst rfl
    · have d46 : us 46 = (.pointer (some ⟨w.heap.size, 7, none⟩)) := hd ⟨13, .data⟩ (by simp) rfl
      clear hd
      obtain ⟨hcX, hfX⟩ := heap_cellR (blkK hst K.out)
      have hlX := blkLt (blkK hst K.out)
      go_simp
      exact kb_same hst rfl
    · have d47 : us 47 = (.int .i64 lev) := hd ⟨14, .data⟩ (by simp) rfl
      clear hd
      go_simp
      exact kb_below hst (ba1 _ _) ⟨_, _, rfl, ints_lit2 (push_at _ _) rfl⟩
    · have d48 := hd ⟨15, .data⟩ (by simp) rfl
      clear hd
      obtain ⟨a12, c12, e12, h12⟩ : IsV [lev] (us 48) wx := d48
      have h9 := HDE.out a12 c12 wx h12
      go_simp
      exact h9.mono fun e w' ⟨he, hb⟩ => ⟨_, he, kb_below hst hb rfl⟩
    · have d45 : us 45 = (.string ((⟨#[115, 121, 109, 98, 111, 108]⟩ : ByteArray) ++ D ++ (⟨#[32]⟩ : ByteArray) ++ nm)) := hd ⟨12, .data⟩ (by simp) rfl
      have d49 : us 49 = (.string E) := hd ⟨16, .data⟩ (by simp) rfl
      clear hd
      go_simp
      exact kb_same hst rfl
    · have d50 : us 50 = (.string ((⟨#[115, 121, 109, 98, 111, 108]⟩ : ByteArray) ++ D ++ (⟨#[32]⟩ : ByteArray) ++ nm ++ E)) := hd ⟨17, .data⟩ (by simp) rfl
      clear hd
      go_simp
      exact kb_same hst rfl
    · clear hd
      go_simp
      exact kb_same hst rfl
    · have d52 : us 52 = (.pointer (some ⟨w.heap.size, 8, none⟩)) := hd ⟨19, .data⟩ (by simp) rfl
      clear hd
      obtain ⟨hcX, hfX⟩ := heap_cellR (blkK hst K.out)
      have hlX := blkLt (blkK hst K.out)
      go_simp
      exact kb_same hst rfl
    · have d51 : us 51 = (.string ((⟨#[115, 121, 109, 98, 111, 108]⟩ : ByteArray) ++ D ++ (⟨#[32]⟩ : ByteArray) ++ nm ++ E ++ (⟨#[32]⟩ : ByteArray))) := hd ⟨18, .data⟩ (by simp) rfl
      have d53 : us 53 = (.string tx) := hd ⟨20, .data⟩ (by simp) rfl
      clear hd
      go_simp
      exact kb_same hst rfl
  · intro us wx hst hd
    have d54 : us 54 = (.string ((⟨#[115, 121, 109, 98, 111, 108]⟩ : ByteArray) ++ D ++ (⟨#[32]⟩ : ByteArray) ++ nm ++ E ++ (⟨#[32]⟩ : ByteArray) ++ tx)) := hd 21 (by simp)
    clear hd
    simp only [List.drop, List.length]
    rw [d54]
    have HST := Lib.hid hst
    clear hst
    go_wp2_with fail
    go_ret
    refine ⟨ret_str (ba_eq ?_), bt0 HB.out HST.out (Nat.le_refl _)⟩
    rw [lineI, if_neg (show ¬ (3 : Int) = 1 by decide), if_neg (show ¬ (3 : Int) = 2 by decide), HDe.out, HEe.out]
    simp
set_option maxRecDepth 100000 in
set_option maxHeartbeats 8000000 in
theorem spLine2_any (kd row col sc tall wide lev : Int) (nm tx : ByteArray) (w : World) (hk : kd = 2) (hrow : 0 ≤ row ∧ row ≤ 400) (hcol : 0 ≤ col ∧ col ≤ 400) (_hsc : 0 ≤ sc ∧ sc ≤ 8) (htall : 0 ≤ tall ∧ tall ≤ 400) (hwide : 0 ≤ wide ∧ wide ≤ 400) (_hlev : 0 ≤ lev ∧ lev ≤ 4) (_hnm : nm.size ≤ 8) (_htx : tx.size ≤ 400) :
    Calls Tryz.prog 23 #[itV ⟨kd, row, col, sc, tall, wide, nm, lev, tx⟩] w fun e w' => e = .returned (.string ⟨(lineI ⟨kd, row, col, sc, tall, wide, nm, lev, tx⟩).toArray⟩) ∧ Below w.heap.size w w' := by
  subst hk
  have HDC := Lib.hid (fun a c w' (h : IntsAt w' a [row, col, tall, wide]) => spWords_any a [row, col, tall, wide] c w' h (by intro x hx; simp only [List.mem_cons, List.not_mem_nil, or_false] at hx; rcases hx with rfl | rfl | rfl | rfl <;> omega) (by simp))
  obtain ⟨D, hD⟩ : ∃ D, D = (⟨(wordsX [row, col, tall, wide]).toArray⟩ : ByteArray) := ⟨_, rfl⟩
  rw [← hD] at HDC
  have HDe := Lib.hid hD
  have hDs : D.size ≤ 88 := by
    rw [hD]
    exact Nat.le_trans (wordsX_bd [row, col, tall, wide] (by intro x hx; simp only [List.mem_cons, List.not_mem_nil, or_false] at hx; rcases hx with rfl | rfl | rfl | rfl <;> omega)) (by simp)
  have hcat : ¬ 9223372036854775807 < 4 + D.size := by omega
  clear hD
  go_enter Tryz.func23, Tryz.ntmps23
  go_wp2_with fail
  refine (HDC.out _ _ _ (ints_lit2 (heap2 _ _ _).2 rfl)).mono ?_
  rintro e w1 ⟨rfl, hb1⟩
  have HB1 := Lib.hid (bt2 hb1)
  clear hb1
  go_wp2_with fail
  go_ret
  refine ⟨ret_str (ba_eq ?_), HB1.out⟩
  rw [lineI, if_neg (show ¬ (2 : Int) = 1 by decide), if_pos rfl, HDe.out]
  simp
theorem spLine_any (x : It) (h : ItB x) (w : World) :
    Calls Tryz.prog 23 #[itV x] w fun e w' => e = .returned (.string ⟨(lineI x).toArray⟩) ∧ Below w.heap.size w w' := by
  obtain ⟨kd, row, col, sc, tall, wide, nm, lev, tx⟩ := x
  obtain ⟨hkd, hrow, hcol, hsc, htall, hwide, hlev, hnm, htx⟩ := h
  rcases hkd with hk | hk | hk
  · exact spLine1_any kd row col sc tall wide lev nm tx w hk hrow hcol hsc htall hwide hlev hnm htx
  · exact spLine2_any kd row col sc tall wide lev nm tx w hk hrow hcol hsc htall hwide hlev hnm htx
  · exact spLine3_any kd row col sc tall wide lev nm tx w hk hrow hcol hsc htall hwide hlev hnm htx

end Go.Proofs.YtlcglclojlffgaaGreatDoor
namespace Go.Proofs.YtlcglclojlffgaaGreatDoor
open Go.RowKit

set_option maxRecDepth 100000 in
set_option maxHeartbeats 8000000 in
theorem spLabelText_any (l : Lb) (a : Option Addr) (c : Nat) (w : World) (hx : itE.At w a l.items) (ht : ∀ x ∈ l.items, x.text.size ≤ 1048576) (hn : l.items.length ≤ 1048576) :
    Calls Tryz.prog 7 #[lbV l a c] w fun e w' => e = .returned (.string ⟨(labT l).toArray⟩) ∧ Below w.heap.size w w' := by
  have HC := Lib.hid (fun w (hx : itE.At w a l.items) => spIsLabel_any l a c w hx ht hn)
  have HX := Lib.hid hx
  have HBD := Lib.hid (fun h => lb_bd (l := l) h)
  have HTL := Lib.hid (fun h => have hb := lb_bd (l := l) h; textP_len hb.1 (by omega) (by omega))
  have HTS := Lib.hid (fun k x h => textP_step (l := l) (k := k) (x := x) h)
  have HTF := Lib.hid (textP_full l)
  have HT0 := Lib.hid (show textP l 0 = [108, 97, 98, 101, 108] ++ wordsX [l.rows, l.cols] ++ [10] by rw [textP, List.take_zero, List.flatMap_nil])
  obtain ⟨ok, hok⟩ : ∃ ok, ok = l.ok := ⟨_, rfl⟩
  have HY := Lib.hid (show labT l = if ok = true then textL l else [] by rw [labT, hok])
  rw [← hok] at HC HBD HTL
  obtain ⟨TP, hTP⟩ : ∃ TP, TP = textP l := ⟨_, rfl⟩
  obtain ⟨TX, hTX⟩ : ∃ TX, TX = textL l := ⟨_, rfl⟩
  obtain ⟨LT, hLT⟩ : ∃ LT, LT = labT l := ⟨_, rfl⟩
  rw [← hTP] at HTL HTS HTF HT0
  rw [← hTX] at HTF HY
  rw [← hLT] at HY ⊢
  clear hx ht hok hn hTP hTX hLT
  obtain ⟨rows, cols, items⟩ := l
  dsimp only at HX HC HBD HTL HTS HTF HT0 ⊢
  have HB0 := Lib.hid (ba1 w (.cells #[.int .i64 rows, .int .i64 cols, .slice a items.length c] 29 (0, 0)))
  have K0 := Lib.hid (push_at w (.cells #[.int .i64 rows, .int .i64 cols, .slice a items.length c] 29 (0, 0)))
  go_enter Tryz.func7, Tryz.ntmps7
  go_wp2_with fail
  refine (HC.out _ (HX.out.below HB0.out)).mono ?_
  rintro e w1 ⟨rfl, hb1⟩
  have HB1 := Lib.hid (bt0 HB0.out hb1 (Nat.le_refl _))
  have K1 := Lib.hid (blkK hb1 K0.out)
  obtain ⟨hc1, hf1⟩ := heap_cellR K1.out
  have hl1 := blkLt K1.out
  clear hb1
  rcases Bool.eq_false_or_eq_true ok with rfl | rfl
  rotate_left
  · go_wp2_with fail
    go_ret
    exact ⟨ret_str (by rw [HY.out]; simp), HB1.out⟩
  obtain ⟨hib, hrc, h12⟩ := HBD.out rfl
  have HIT := Lib.hid hib
  have HTL2 := Lib.hid (HTL.out rfl)
  have HYe := Lib.hid (show LT = TX by rw [HY.out]; simp)
  clear HBD HTL HY HC hib
  have HDC := Lib.hid (fun a c w' (h : IntsAt w' a [rows, cols]) => spWords_any a [rows, cols] c w' h (by intro x hx; simp only [List.mem_cons, List.not_mem_nil, or_false] at hx; rcases hx with rfl | rfl <;> omega) (by simp))
  obtain ⟨D, hD⟩ : ∃ D, D = (⟨(wordsX [rows, cols]).toArray⟩ : ByteArray) := ⟨_, rfl⟩
  rw [← hD] at HDC
  have hDs : D.size ≤ 44 := by
    rw [hD]
    exact wordsX_bd [rows, cols] (by intro x hx; simp only [List.mem_cons, List.not_mem_nil, or_false] at hx; rcases hx with rfl | rfl <;> omega)
  have hcat0 : ¬ 9223372036854775807 < 5 + D.size := by omega
  have hcat1 : ¬ 9223372036854775807 < 5 + D.size + 1 := by omega
  have HS0 := Lib.hid (show (⟨#[108, 97, 98, 101, 108]⟩ ++ D ++ ⟨#[10]⟩ : ByteArray).data.toList = TP 0 by rw [HT0.out, hD]; simp)
  clear hD
  go_wp2_with fail
  refine (HDC.out _ _ _ (ints_lit2 (push_at _ _) rfl)).mono ?_
  rintro e w2 ⟨rfl, hb2⟩
  have HB2 := Lib.hid (bt0 (bt0 HB1.out (ba1 _ _) (Nat.le_refl _)) hb2 (Nat.le_refl _))
  have K2 := Lib.hid (blkK hb2 (blkK (ba1 _ _) K1.out))
  clear hb2 hc1 hf1
  go_wp2_with fail
  go_loopw [3, 4] (fun v i wr => ∃ (k : Nat) (V : ByteArray), k ≤ items.length ∧ i = .int .i64 (k : Int) ∧ v = .string V ∧ V.data.toList = TP k ∧ Below w.heap.size w wr ∧ wr.heap[w.heap.size]? = some (.cells #[.int .i64 rows, .int .i64 cols, .slice a items.length c] 29 (0, 0))) (fun _ i _ => items.length - (intOf i).toNat)
  case atStart => exact ⟨0, _, Nat.zero_le _, rfl, rfl, HS0.out, HB2.out, K2.out⟩
  case round =>
    obtain ⟨k, V, hk, rfl, rfl, hV, hbr, hkr⟩ := hrel
    have HV := Lib.hid hV
    have HBR := Lib.hid hbr
    have KR := Lib.hid hkr
    have hVs : V.size ≤ 60 + 701 * k := by have := HTL2.out k; rw [← hV] at this; exact this
    have HXr := Lib.hid (HX.out.below hbr)
    obtain ⟨hc1, hf1⟩ := heap_cellR hkr
    have hl2 := blkLt hkr
    clear hV hbr hkr
    by_cases hlt : k < items.length
    · have hki : (k : Int) < (items.length : Int) := by omega
      obtain ⟨x, hx⟩ : ∃ x, items[k]? = some x := by rw [List.getElem?_eq_getElem hlt]; exact ⟨_, rfl⟩
      have hib := HIT.out x (List.mem_of_getElem? hx)
      have HLE := Lib.hid (lineI_len hib)
      have HST := Lib.hid (HTS.out k x hx)
      have HLC := Lib.hid (fun w => spLine_any x hib w)
      obtain ⟨b, o, rfl, hbl, y0, y1, y2, y3, y4, y5, y6, y7, y8⟩ := it_at HXr.out hx
      obtain ⟨LN, hLN⟩ : ∃ LN, LN = (⟨(lineI x).toArray⟩ : ByteArray) := ⟨_, rfl⟩
      rw [← hLN] at HLC
      have hLs : LN.size ≤ 700 := by rw [hLN]; exact HLE.out
      have hk1 : ¬ 9223372036854775807 < V.size + LN.size := by omega
      have hk2 : ¬ 9223372036854775807 < V.size + LN.size + 1 := by omega
      have HNX := Lib.hid (show (V ++ LN ++ ⟨#[10]⟩ : ByteArray).data.toList = TP (k + 1) by rw [HST.out, ← HV.out, hLN]; simp)
      clear hx hLN hLs hib
      obtain ⟨kd, row, col, sc, tall, wide, nm, lev, tx⟩ := x
      dsimp only at y0 y1 y2 y3 y4 y5 y6 y7 y8
      unfold itV at HLC
      dsimp only at HLC
      go_wp2_with fail
      refine (HLC.out _).mono ?_
      rintro e w3 ⟨rfl, hb3⟩
      have HB3 := Lib.hid (bt0 HBR.out hb3 (Nat.le_refl _))
      have K3 := Lib.hid (blkK hb3 KR.out)
      clear hb3 hc1 hf1 y0 y1 y2 y3 y4 y5 y6 y7 y8
      go_wp2_with fail
      exact ⟨⟨k + 1, _, by omega, by go_num, rfl, HNX.out, HB3.out, K3.out⟩, by simp [intOf]; omega⟩
    · have hki : ¬ (k : Int) < (items.length : Int) := by omega
      have hke := Lib.hid (show V.data.toList = LT by have h := HV.out; rw [show k = items.length by omega, HTF.out] at h; rw [h, HYe.out])
      go_wp2_with fail
      go_ret
      exact ⟨ret_str (ba_eq hke.out), HBR.out⟩

end Go.Proofs.YtlcglclojlffgaaGreatDoor
namespace Go.Proofs.YtlcglclojlffgaaGreatDoor
open Go.RowKit

theorem bytesUpL {w w' : World} {a : Option Addr} {n : Nat} (h : BytesAt w w.heap.size a n) (hb : Below w.heap.size w w') : BytesAt w' w'.heap.size a n := by
  intro i hi
  obtain ⟨b, o, z, e, hlt, hc, h0, h1⟩ := h i hi
  exact ⟨b, o, z, e, Nat.lt_of_lt_of_le hlt hb.size, (hb.cell (p := ⟨b, o + i, none⟩) hlt).trans hc, h0, h1⟩

set_option maxRecDepth 100000 in
set_option maxHeartbeats 1000000 in
theorem drawLabelText_any (a : Option Addr) (n c : Nat) (w : World) (hx : BytesAt w w.heap.size a n) (hn : n ≤ 4096) :
    Calls Tryz.prog 12 #[.slice a n c] w fun e w' => ∃ (l : Lb) (a' : Option Addr) (c' : Nat), e = .returned (lbV l a' c') ∧ l.items.length ≤ 13 ∧ ItsD l.items ∧ itE.Own w' w.heap.size (.slice a' l.items.length c') l.items ∧ Below w.heap.size w w' := by
  have HB0 := Lib.hid (ba1 w (.cells #[.int .i64 0, .int .i64 0, .slice none 0 0] 29 (0, 0)))
  have K0 := Lib.hid (push_at w (.cells #[.int .i64 0, .int .i64 0, .slice none 0 0] 29 (0, 0)))
  have HX := Lib.hid (bytesUpL hx (ba1 w (.cells #[.int .i64 0, .int .i64 0, .slice none 0 0] 29 (0, 0))))
  clear hx
  go_enter Tryz.func12, Tryz.ntmps12
  go_wp2_with fail
  refine (l01From_any a n c _ HX.out hn).mono ?_
  rintro e w1 ⟨b, rfl, hb, hs1, hb1⟩
  have HS1 := Lib.hid hs1
  have HB1 := Lib.hid (bt0 HB0.out hb1 (Nat.le_refl _))
  have K1 := Lib.hid (blkK hb1 K0.out)
  have hbw : w.heap.size < b := by simp at hb; omega
  clear hs1 hb1 hb
  go_wp2_with fail
  refine (l29Draw_any b w1 HS1.out).mono ?_
  rintro e w2 ⟨l, a2, c2, rfl, hl, hd, ho, hst⟩
  have HB2 := Lib.hid (HB1.out.trans (below_of_grownBy hst.2 HB1.out.size (fun k e => by have := Option.some.inj e; omega)))
  have K2 := Lib.hid ((hst.2.block w.heap.size (blkLt K1.out) (fun e => by have := Option.some.inj e; omega)).trans K1.out)
  have HO := Lib.hid ho
  have hw1 : w.heap.size < w1.heap.size := blkLt K1.out
  have HD := Lib.hid hd
  obtain ⟨rows, cols, items⟩ := l
  dsimp only at hl HO HD
  clear hst ho hd
  obtain ⟨hcr, hfr⟩ := heap_cellR K2.out
  have hlr := blkLt K2.out
  unfold lbV
  dsimp only
  go_wp2_with fail
  refine bodyPost_ret (v := .agg #[.int .i64 rows, .int .i64 cols, .slice a2 items.length c2]) (by simp [results, Tryz.results12, go_sem, hcr]) rfl ⟨⟨rows, cols, items⟩, a2, c2, rfl, hl, HD.out, ?_, ?_⟩
  · refine Enc.Own.weak (base := w1.heap.size) ?_ (by omega)
    iterate 3 (refine Enc.Own.src ?_ (b := w.heap.size) (by omega) (grownBy_set _ _ _ _))
    exact HO.out
  · iterate 3 (refine Below.setCell ?_ (by dsimp only; omega) _)
    exact HB2.out

/-- rows of lists in memory -/
def RowsAt (w : World) (a : Option Addr) (ws : List (List Int)) : Prop := ∀ (i : Nat) (x : List Int), ws[i]? = some x → ∃ g a' c', a = some ⟨g, 0, none⟩ ∧ w.cell? ⟨g, i, none⟩ = some (.slice a' x.length c') ∧ IntsAt w a' x ∧ g < w.heap.size
theorem RwsOwn.rows {W : World} {base : Nat} {a : Option Addr} {n c : Nat} {ws : List (List Int)} (h : RwsOwn W base (.slice a n c) ws) : RowsAt W a ws := fun _ _ hx => h.at hx
theorem RowsAt.below {w w' : World} {a : Option Addr} {ws : List (List Int)} (h : RowsAt w a ws) (hb : Below w.heap.size w w') : RowsAt w' a ws := fun i x hx => by
  obtain ⟨g, a', c', e, hc, hi, hg⟩ := h i x hx
  exact ⟨g, a', c', e, (hb.cell (p := ⟨g, i, none⟩) hg).trans hc, hi.below hb, Nat.lt_of_lt_of_le hg hb.size⟩
theorem likeIntsB {a b : Option Addr} {xs : List Int} {c d : Nat} {w : World} (hx : IntsAt w a xs) (hy : IntsAt w b xs) (lx : xs.length ≤ maxLen) :
    Calls Tryz.prog 36 #[.slice a xs.length c, .slice b xs.length d] w fun e w' => e = .returned (.bool true) ∧ Below w.heap.size w w' :=
  (likeInts_any a b xs xs c d w hx hy lx lx).mono fun _ w' ⟨he, n, hw⟩ => ⟨by rw [he]; simp, by subst hw; exact ⟨rfl, rfl, rfl, Nat.le_refl _, fun _ _ => rfl⟩⟩

set_option maxRecDepth 100000 in
set_option maxHeartbeats 1000000 in
theorem likeRows_same (a b : Option Addr) (ws : List (List Int)) (c d : Nat) (w : World) (hx : RowsAt w a ws) (hy : RowsAt w b ws) (hl : ws.length ≤ 1048576) (hz : ∀ x ∈ ws, x.length ≤ 1048576) :
    Calls Tryz.prog 16 #[.slice a ws.length c, .slice b ws.length d] w fun e w' => e = .returned (.bool true) ∧ Below w.heap.size w w' := by
  have HX := Lib.hid hx
  have HY := Lib.hid hy
  have HZ := Lib.hid hz
  have h0 : ((ws.length : Int) != (ws.length : Int)) = false := by simp
  clear hx hy hz
  go_enter Tryz.func16, Tryz.ntmps16
  go_wp2_with fail
  go_loopw [5] (fun i wr => ∃ k : Nat, k ≤ ws.length ∧ i = .int .i64 (k : Int) ∧ Below w.heap.size w wr) (fun i _ => ws.length - (intOf i).toNat)
  case atStart => exact ⟨0, Nat.zero_le _, rfl, Below.refl _ _⟩
  case round =>
    obtain ⟨k, hk, rfl, hbr⟩ := hrel
    have HBR := Lib.hid hbr
    clear hbr
    by_cases hlt : k < ws.length
    · have hki : (k : Int) < (ws.length : Int) := by omega
      obtain ⟨x, hxk⟩ : ∃ x, ws[k]? = some x := by rw [List.getElem?_eq_getElem hlt]; exact ⟨_, rfl⟩
      obtain ⟨g1, a1, c1, rfl, hc1, hi1, hl1⟩ := (HX.out.below HBR.out) k x hxk
      obtain ⟨g2, a2, c2, rfl, hc2, hi2, hl2⟩ := (HY.out.below HBR.out) k x hxk
      have HI1 := Lib.hid hi1
      have HI2 := Lib.hid hi2
      have hxl : x.length ≤ maxLen := by have := HZ.out x (List.mem_of_getElem? hxk); unfold maxLen; omega
      clear hi1 hi2 hxk
      go_wp2_with fail
      refine wp_region_ext (by kernel_rfl) (by kernel_rfl) ?_
      repeat (go_big_quiet_step ((go_at_call 36; go_must (exact calls_ext _ (likeIntsB (HI1.out.below (Ext.below ‹_›)) (HI2.out.below (Ext.below ‹_›)) hxl)))))
      refine wpQuiet_nil ?_
      rintro _ ⟨s, rfl⟩
      have HB2 := Lib.hid (bt0 HBR.out s.below (Nat.le_refl _))
      clear hc1 hc2
      go_wp2_with fail
      exact ⟨⟨k + 1, by omega, by go_num, HB2.out⟩, by simp [intOf]; omega⟩
    · have hki : ¬ (k : Int) < (ws.length : Int) := by omega
      go_wp2_with fail
      go_ret
      exact ⟨rfl, HBR.out⟩

end Go.Proofs.YtlcglclojlffgaaGreatDoor
namespace Go.Proofs.YtlcglclojlffgaaGreatDoor
open Go.RowKit

theorem rdLab_nil : rdLab [] = none := by
  have h : labI [] = none := by
    rw [labI, if_neg]
    rintro ⟨h, -⟩
    have : (cutN 10 14 ([] : List UInt8)).length = 1 := rfl
    omega
  rw [rdLab, h]; rfl
theorem rdLab_labT (l : Lb) : rdLab (labT l) = if l.ok = true then some l else none := by
  rw [labT]
  by_cases h : l.ok = true
  · rw [if_pos h, if_pos h, rdLab_iff]; exact ⟨h, rfl⟩
  · rw [if_neg h, if_neg h, rdLab_nil]
theorem labT_ne {l : Lb} (h : l.ok = true) : labT l ≠ [] := by
  intro e
  have h2 := rdLab_labT l
  rw [e, rdLab_nil, if_pos h] at h2
  cases h2
theorem labT_no {l : Lb} (h : l.ok = false) : labT l = [] := by rw [labT, if_neg (by rw [h]; decide)]
theorem labT_len (l : Lb) : (labT l).length ≤ 10000 := by
  by_cases h : l.ok = true
  · obtain ⟨hib, hrc, h12⟩ := lb_bd h
    have h1 := textP_len hib (by omega) (by omega) l.items.length
    rw [textP_full] at h1
    rw [labT, if_pos h]
    omega
  · rw [labT, if_neg h]; simp
theorem ovAll_row (bs : List Bx) : ∀ (i : Nat), ∀ x ∈ ovAll bs i, x.length ≤ 2
  | 0, x, h => by cases h
  | i + 1, x, h => by
    rw [ovAll] at h
    rcases List.mem_append.1 h with h | h
    · exact ovAll_row bs i x h
    · have key : ∀ k, ∀ x ∈ ovTo bs i k, x.length ≤ 2 := by
        intro k
        induction k with
        | zero => intro x hx; cases hx
        | succ k ih =>
          intro x hx
          rw [ovTo] at hx
          rcases List.mem_append.1 hx with hx | hx
          · exact ih x hx
          · split at hx
            · rw [List.mem_singleton] at hx
              subst hx; simp
            · cases hx
      exact key _ x h

set_option maxRecDepth 100000 in
set_option maxHeartbeats 2000000 in
theorem labelText_law (a : Option Addr) (n c : Nat) (w : World) (hx : BytesAt w w.heap.size a n) (hE : Env w) :
    Calls Tryz.prog 4 #[.slice a n c] w fun e w' => e = .returned (.bool true) ∧ Below w.heap.size w w' := by
  have HX := Lib.hid hx
  have HE := Lib.hid hE
  clear hx hE
  by_cases hn : n ≤ 4096
  rotate_left
  · have hni : decide ((4096 : Int) < (n : Int)) = true := by simp; omega
    go_enter Tryz.func4, Tryz.ntmps4
    go_wp2_with fail
    refine (big_any _ _ _ _).mono ?_
    rintro e w1 ⟨rfl, rfl⟩
    rw [hni]
    go_wp2_with fail
    go_ret
    exact ⟨rfl, Below.refl _ _⟩
  have hni : decide ((4096 : Int) < (n : Int)) = false := by simp; omega
  go_enter Tryz.func4, Tryz.ntmps4
  go_wp2_with fail
  refine (big_any _ _ _ _).mono ?_
  rintro e w1 ⟨rfl, rfl⟩
  rw [hni]
  go_wp2_with fail
  refine (drawLabelText_any a n c _ HX.out hn).mono ?_
  rintro e w1 ⟨l, a1, c1, rfl, hl, hd, ho, hb1⟩
  have HO1 := Lib.hid ho
  have HB1 := Lib.hid hb1
  have htx : ∀ x ∈ l.items, x.text.size ≤ 1048576 := fun x hx => Nat.le_trans (hd x hx).1 (by omega)
  have hnl : l.items.length ≤ 1048576 := by omega
  have HLT := Lib.hid (fun a c w (h : itE.At w a l.items) hT => labelText_any l a c w h htx hnl hT)
  have HST := Lib.hid (fun a c w (h : itE.At w a l.items) => spLabelText_any l a c w h htx hnl)
  have HOV := Lib.hid (fun a c w (h : itE.At w a l.items) => overlapItems_any l a c w h htx hnl)
  have HSV := Lib.hid (fun a c w (h : itE.At w a l.items) => spOverlapItems_any l a c w h htx hnl)
  obtain ⟨TB, hTB⟩ : ∃ TB : ByteArray, TB = ⟨(labT l).toArray⟩ := ⟨_, rfl⟩
  have hTBl : TB.data.toList = labT l := by rw [hTB]
  have hTBs : TB.size ≤ 1048576 := by
    have h := labT_len l
    rw [← hTBl] at h
    exact Nat.le_trans h (by omega)
  have HRD := Lib.hid (fun w (h : Env w) => readLabel_any TB w hTBs h)
  rw [hTBl, rdLab_labT] at HRD
  rw [← hTB] at HLT HST
  have HNE := Lib.hid (show l.ok = true → TB.toList.isEmpty = false from fun h => by
    rw [ByteArray.toList_eq, hTBl, Bool.eq_false_iff, ne_eq, List.isEmpty_iff]; exact labT_ne h)
  have HEQ := Lib.hid (show l.ok = false → TB.toList.isEmpty = true from fun h => by
    rw [ByteArray.toList_eq, hTBl, List.isEmpty_iff]; exact labT_no h)
  obtain ⟨rs, hrs⟩ : ∃ rs, rs = ovAll (l.items.map bxO) (l.items.map bxO).length := ⟨_, rfl⟩
  have HRL := Lib.hid (show rs.length ≤ 1048576 by
    have h := ovAll_len (l.items.map bxO) (l.items.map bxO).length
    rw [← hrs] at h
    have h2 : (l.items.map bxO).length ≤ 13 := by rw [List.length_map]; exact hl
    have h3 := Nat.mul_le_mul h2 h2
    omega)
  have HRZ := Lib.hid (show ∀ x ∈ rs, x.length ≤ 1048576 from fun x hx => Nat.le_trans (ovAll_row _ _ x (by rw [← hrs]; exact hx)) (by omega))
  rw [← hrs] at HOV HSV
  obtain ⟨ok, hok⟩ : ∃ ok, ok = l.ok := ⟨_, rfl⟩
  rw [← hok] at HOV HSV HRD HNE HEQ
  have HS1 := Lib.hid ho.lo
  clear ho hb1 htx hnl hTB hTBl hTBs hrs hok hd hni
  obtain ⟨rows, cols, items⟩ := l
  dsimp only at HO1 HLT HST HOV HSV HRD hl HS1
  unfold lbV at HLT HST HOV HSV ⊢
  dsimp only at HLT HST HOV HSV ⊢
  have KL := Lib.hid (push_at w1 (.cells #[.int .i64 rows, .int .i64 cols, .slice a1 items.length c1] 29 (0, 0)))
  have HB2 := Lib.hid (bt0 HB1.out (ba1 w1 (.cells #[.int .i64 rows, .int .i64 cols, .slice a1 items.length c1] 29 (0, 0))) (Nat.le_refl _))
  have HA1 := Lib.hid (HO1.out.at.below (ba1 w1 (.cells #[.int .i64 rows, .int .i64 cols, .slice a1 items.length c1] 29 (0, 0))))
  go_wp2_with fail
  refine (HLT.out a1 c1 _ HA1.out (HE.out.next HB2.out).tab).mono ?_
  rintro e w3 ⟨rfl, hb3⟩
  have HA3 := Lib.hid (HA1.out.below hb3)
  have HB3 := Lib.hid (bt0 HB2.out hb3 (Nat.le_refl _))
  have KL3 := Lib.hid (blkK hb3 KL.out)
  obtain ⟨hcL, hfL⟩ := heap_cellR KL3.out
  have hlL := blkLt KL3.out
  clear hb3
  go_wp2_with fail
  refine (HST.out a1 c1 _ HA3.out).mono ?_
  rintro e w4 ⟨rfl, hb4⟩
  have HA4 := Lib.hid (HA3.out.below hb4)
  have HB4 := Lib.hid (bt0 HB3.out hb4 (Nat.le_refl _))
  have KL4 := Lib.hid (blkK hb4 KL3.out)
  have hTT : (TB.toList == TB.toList) = true := by simp
  clear hb4 hcL hfL hlL
  go_wp2_with fail
  refine (HRD.out _ (HE.out.next HB4.out)).mono ?_
  rintro e w5 ⟨hb5, hr⟩
  have HA5 := Lib.hid (HA4.out.below hb5)
  have HB5 := Lib.hid (bt0 HB4.out hb5 (Nat.le_refl _))
  have KL5 := Lib.hid (blkK hb5 KL4.out)
  clear hb5
  obtain ⟨hcL, hfL⟩ := heap_cellR KL5.out
  have hlL := blkLt KL5.out
  rcases Bool.eq_false_or_eq_true ok with rfl | rfl
  rotate_left
  · rcases hr with ⟨-, rfl⟩ | ⟨l', v, hno, -, -⟩
    rotate_left
    · simp at hno
    have hte := HEQ.out rfl
    go_wp2_with fail
    go_ret
    exact ⟨rfl, bt0 HB5.out (ba1 _ _) (Nat.le_refl _)⟩
  have hte := HNE.out rfl
  rcases hr with ⟨hno, -⟩ | ⟨l', v, hl', rfl, hown⟩
  · simp at hno
  rw [if_pos rfl] at hl'
  obtain rfl := Option.some.inj hl'
  dsimp only at hown ⊢
  obtain ⟨a2, c2, rfl⟩ := hown.read
  have HX2 := Lib.hid (hown.at.below (ba1 w5 (.cells #[.int .i64 rows, .int .i64 cols, .slice a2 items.length c2] 29 (0, 0))))
  have KX := Lib.hid (push_at w5 (.cells #[.int .i64 rows, .int .i64 cols, .slice a2 items.length c2] 29 (0, 0)))
  have HA6 := Lib.hid (HA5.out.below (ba1 w5 (.cells #[.int .i64 rows, .int .i64 cols, .slice a2 items.length c2] 29 (0, 0))))
  have HB6 := Lib.hid (bt0 HB5.out (ba1 w5 (.cells #[.int .i64 rows, .int .i64 cols, .slice a2 items.length c2] 29 (0, 0))) (Nat.le_refl _))
  have KL6 := Lib.hid (push_old (A := .cells #[.int .i64 rows, .int .i64 cols, .slice a2 items.length c2] 29 (0, 0)) KL5.out)
  clear hown hl'
  go_wp2_with fail
  refine (HOV.out a1 c1 _ HA6.out).mono ?_
  rintro e w7 ⟨hb7, hr⟩
  rcases hr with ⟨-, ra, rc, rfl, hra⟩ | ⟨hno, -⟩
  rotate_left
  · cases hno
  have HRA := Lib.hid hra.rows
  have HX7 := Lib.hid (HX2.out.below hb7)
  have HA7 := Lib.hid (HA6.out.below hb7)
  have HB7 := Lib.hid (bt0 HB6.out hb7 (Nat.le_refl _))
  have KL7 := Lib.hid (blkK hb7 KL6.out)
  have KX7 := Lib.hid (blkK hb7 KX.out)
  clear hb7 hra hcL hfL hlL
  obtain ⟨hcX, hfX⟩ := heap_cellR KX7.out
  have hlX := blkLt KX7.out
  go_wp2_with fail
  refine (HOV.out a2 c2 _ HX7.out).mono ?_
  rintro e w8 ⟨hb8, hr⟩
  rcases hr with ⟨-, rb, rd, rfl, hrb⟩ | ⟨hno, -⟩
  rotate_left
  · cases hno
  have HRB := Lib.hid hrb.rows
  have HRA8 := Lib.hid (HRA.out.below hb8)
  have HX8 := Lib.hid (HX7.out.below hb8)
  have HA8 := Lib.hid (HA7.out.below hb8)
  have HB8 := Lib.hid (bt0 HB7.out hb8 (Nat.le_refl _))
  have KL8 := Lib.hid (blkK hb8 KL7.out)
  have KX8 := Lib.hid (blkK hb8 KX7.out)
  clear hb8 hrb hcX hfX hlX
  obtain ⟨hcL, hfL⟩ := heap_cellR KL8.out
  have hlL := blkLt KL8.out
  go_wp2_with fail
  refine (HSV.out a1 c1 _ HA8.out).mono ?_
  rintro e w9 ⟨hb9, hr⟩
  rcases hr with ⟨-, re, rf, rfl, hre⟩ | ⟨hno, -⟩
  rotate_left
  · cases hno
  have HRE := Lib.hid hre.rows
  have HRA9 := Lib.hid (HRA8.out.below hb9)
  have HRB9 := Lib.hid (HRB.out.below hb9)
  have HX9 := Lib.hid (HX8.out.below hb9)
  have HB9 := Lib.hid (bt0 HB8.out hb9 (Nat.le_refl _))
  have KX9 := Lib.hid (blkK hb9 KX8.out)
  clear hb9 hre hcL hfL hlL
  obtain ⟨hcX, hfX⟩ := heap_cellR KX9.out
  have hlX := blkLt KX9.out
  go_wp2_with fail
  refine (HLT.out a2 c2 _ HX9.out (HE.out.next HB9.out).tab).mono ?_
  rintro e w10 ⟨rfl, hb10⟩
  have HRE10 := Lib.hid (HRE.out.below hb10)
  have HRA10 := Lib.hid (HRA9.out.below hb10)
  have HRB10 := Lib.hid (HRB9.out.below hb10)
  have HB10 := Lib.hid (bt0 HB9.out hb10 (Nat.le_refl _))
  clear hb10 hcX hfX hlX
  go_wp2_with fail
  refine (likeRows_same ra rb rs rc rd _ HRA10.out HRB10.out HRL.out HRZ.out).mono ?_
  rintro e w11 ⟨rfl, hb11⟩
  have HRE11 := Lib.hid (HRE10.out.below hb11)
  have HRA11 := Lib.hid (HRA10.out.below hb11)
  have HB11 := Lib.hid (bt0 HB10.out hb11 (Nat.le_refl _))
  clear hb11
  go_wp2_with fail
  refine (likeRows_same ra re rs rc rf _ HRA11.out HRE11.out HRL.out HRZ.out).mono ?_
  rintro e w12 ⟨rfl, hb12⟩
  have HB12 := Lib.hid (bt0 HB11.out hb12 (Nat.le_refl _))
  clear hb12
  go_wp2_with fail
  go_ret
  exact ⟨rfl, HB12.out⟩

end Go.Proofs.YtlcglclojlffgaaGreatDoor
