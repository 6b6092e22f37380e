import Derived.Test.YtkmfgchbfchdbaaDoorVSpO
namespace Go.Proofs.YtkmfgchbfchdbaaDoor
open Go.RowKit

/-- a cell that a pointer leads to -/
def spPtr (x : Value) : Sp KB := ⟨fun u W => ∃ b o, u = .pointer (some ⟨b, o, none⟩) ∧ W.cell? ⟨b, o, none⟩ = some x, fun _ _ _ hk ⟨b, o, e, h⟩ => ⟨b, o, e, by rw [hk.cell (p := ⟨b, o, none⟩) (lt_of_cell h)]; exact h⟩⟩

/-- the box of the damage that is read, and the words -/
structure OneSt (w : World) (a : Option Addr) (ss : List ByteArray) (k : Int) (wr : World) : Prop where
  bres : wr.heap[w.heap.size]? = some (.cells #[.int .i64 0, .int .i64 0, .int .i64 0, .int .i64 0, .int .i64 0, .int .i64 0] 50 (0, 0))
  bd : ∃ B, w.heap.size + 1 ≤ B ∧ wr.heap[B]? = some (.cells #[.int .i64 k, .int .i64 0, .int .i64 0, .int .i64 0, .int .i64 0, .int .i64 0] 50 (0, 0))
  str : StrsAt wr a ss
  bel : Below w.heap.size w wr

theorem retOne_no {w w' : World} {o : Option Dm} (h : o = none) (k r c t v g : Int) (hb : Below w.heap.size w w') : RetOne w o (.returned (.tuple #[.agg #[.int .i64 k, .int .i64 r, .int .i64 c, .int .i64 t, .int .i64 v, .int .i64 g], .bool false])) w' := by
  subst h
  exact ⟨⟨k, r, c, t, v, g⟩, rfl, fun _ e => (by cases e), hb⟩
theorem retOne_yes {w w' : World} {o : Option Dm} (k r c t v g : Int) (h : o = some ⟨k, r, c, t, v, g⟩) (hb : Below w.heap.size w w') : RetOne w o (.returned (.tuple #[.agg #[.int .i64 k, .int .i64 r, .int .i64 c, .int .i64 t, .int .i64 v, .int .i64 g], .bool true])) w' := by
  subst h
  exact ⟨⟨k, r, c, t, v, g⟩, rfl, fun _ e => Option.some.inj e, hb⟩
theorem minus_cons {x : ByteArray} (hp : 0 < x.size) (h : x[0] = 45) : x.data.toList = 45 :: (x.data.toList.drop 1).take (x.size - 1) := by
  have hl : x.data.toList.length = x.size := rfl
  have h0 : 0 < x.data.toList.length := by omega
  have h2 := List.drop_eq_getElem_cons h0
  rw [List.drop_zero] at h2
  have h3 : (x.data.toList.drop 1).take (x.size - 1) = x.data.toList.drop 1 := List.take_of_length_le (by rw [List.length_drop]; omega)
  have h4 : x.data.toList[0] = 45 := h
  rw [h3]
  rw [h4] at h2
  exact h2
theorem plus_cons {x : ByteArray} {r : List UInt8} (hp : 0 < x.size) (e : x.data.toList = 45 :: r) : x[0] = 45 := by
  have h2 : x.data.toList[0]? = some 45 := by rw [e]; rfl
  have hl : x.data.toList.length = x.size := rfl
  rw [List.getElem?_eq_getElem (by omega)] at h2
  exact Option.some.inj h2
theorem zs_set {nums : List Int} {k : Nat} (hl : nums.length = k) (hk : k < 5) (z : Int) : (nums ++ List.replicate (5 - k) 0).set k z = (nums ++ [z]) ++ List.replicate (5 - (k + 1)) 0 := by
  rw [List.set_append_right _ _ (by omega), hl, Nat.sub_self, show 5 - k = (5 - (k + 1)) + 1 by omega, List.replicate_succ, List.set_cons_zero, List.append_assoc]; rfl
theorem zs_skip {nums : List Int} {k : Nat} (hk : k < 5) : nums ++ List.replicate (5 - k) (0 : Int) = (nums ++ [0]) ++ List.replicate (5 - (k + 1)) 0 := by
  rw [show 5 - k = (5 - (k + 1)) + 1 by omega, List.replicate_succ, List.append_assoc]; rfl
theorem sgn_minus {x : ByteArray} {r : List UInt8} (h : x.data.toList = 45 :: r) : sgnS x.data.toList = (match valS r with | none => none | some n => some (-n)) := by
  rw [h, sgnS, if_pos rfl]
  cases valS r <;> rfl
theorem sgn_plus {x : ByteArray} (h : ∀ r, x.data.toList ≠ 45 :: r) : sgnS x.data.toList = valS x.data.toList := by
  cases hx : x.data.toList with
  | nil => rw [sgnS]
  | cons a r => rw [sgnS, if_neg (fun e => h r (by rw [hx, e]))]

set_option maxRecDepth 100000 in
set_option maxHeartbeats 4000000 in
theorem l27One_any (s : ByteArray) (w : World) (hs : s.size ≤ 1048576) :
    Calls Tryd.prog 23 #[.string s] w (RetOne w (spOne (cut 32 s.data.toList))) := by
  go_enter Tryd.func23, Tryd.ntmps23
  go_wp2_with fail
  refine (l01Split_any s 32 _ hs).mono ?_
  rintro e w1 ⟨ss, a, cp, hss, rfl, ho, hb1⟩
  obtain ⟨h, t, hc⟩ : ∃ h t, cut 32 s.data.toList = h :: t := by
    cases hc : cut 32 s.data.toList with
    | nil => exact absurd hc (cut_ne 32 _)
    | cons h t => exact ⟨h, t, rfl⟩
  have hls : ∀ x ∈ ss, x.size ≤ 1048576 := fun x hx => Nat.le_trans ((cut_len 32 s.data.toList).2 _ (by rw [← hss]; exact List.mem_map.2 ⟨x, hx, rfl⟩)) hs
  obtain ⟨b, bs, rfl, hbh, hbt⟩ := bytesL_cons hss hc
  have HLS := Lib.hid hls
  have hbsl : bs.length ≤ 1048576 := by
    have h1 := congrArg List.length hss
    have h2 := (cut_len 32 s.data.toList).1
    have h3 : s.data.toList.length = s.size := rfl
    rw [bytesL, List.length_map] at h1
    simp at h1
    omega
  have hx0 := (blkK hb1 (push_at w (.cells #[.int .i64 0, .int .i64 0, .int .i64 0, .int .i64 0, .int .i64 0, .int .i64 0] 50 (0, 0))))
  have HB1 := Lib.hid (bt1 hb1)
  have HST := Lib.hid ho.strs
  have HBH := Lib.hid hbh
  have HBT := Lib.hid hbt
  have hsz1 : w.heap.size + 1 ≤ w1.heap.size := by have := blkLt hx0; omega
  have HX0 := Lib.hid hx0
  have HOW := Lib.hid ho
  obtain ⟨b0, o0, rfl, hw0⟩ := ho.strs 0 (by simp)
  have hwl := lt_of_cell hw0
  simp only [Nat.add_zero, List.getElem_cons_zero] at hw0
  have HC := Lib.hid hc
  clear hss hc hbh hbt ho hb1 hx0 hls
  go_wp2_with fail
  have HX1 := Lib.hid (push_old (A := .cells #[.int .i64 0, .int .i64 0, .int .i64 0, .int .i64 0, .int .i64 0, .int .i64 0] 50 (0, 0)) HX0.out)
  have HD1 := Lib.hid (push_at w1 (.cells #[.int .i64 0, .int .i64 0, .int .i64 0, .int .i64 0, .int .i64 0, .int .i64 0] 50 (0, 0)))
  go_loopw [6] (fun i wr => ∃ k : Nat, k ≤ 5 ∧ i = .int .i64 k ∧ wr.heap[w1.heap.size]? = some (.cells #[.int .i64 (kindTo h k : Nat), .int .i64 0, .int .i64 0, .int .i64 0, .int .i64 0, .int .i64 0] 50 (0, 0)) ∧ Below w1.heap.size w1 wr) (fun i _ => 5 - (intOf i).toNat)
  case atStart => exact ⟨0, by omega, rfl, by rw [kindTo_zero]; exact HD1.out, ba1 _ _⟩
  case round =>
    obtain ⟨k, hk, rfl, hbox, hbl⟩ := hrel
    have HBX := Lib.hid hbox
    have HBL := Lib.hid hbl
    by_cases hlt : k < 5
    · have hlti : (k : Int) < 5 := by omega
      clear hbl hbox
      have hwr : wr.cell? ⟨b0, o0, none⟩ = some (.string b) := (HBL.out.cell (p := ⟨b0, o0, none⟩) hwl).trans hw0
      have hlr : b0 < wr.heap.size := lt_of_cell hwr
      clear hw0
      go_wp2_with fail
      refine wp_region_rs (Keep := KB) [22, 23, 24, 25, 26, 27, 28, 29] (fun us => _)
        [spRow 5 (fun i => .string (wordB i)), spE (.int .i64 (k : Int)), spPtr (.string (wordB k)), spE (.string (wordB k)), spE (.slice (some ⟨b0, o0, none⟩) (bs.length + 1) cp), spPtr (.string b), spE (.string b), spE (.bool ((wordB k).toList == b.toList))]
        (StX wr) (by kernel_rfl) (by kernel_rfl) (Nat.le_of_ble_eq_true rfl) (fun us => by simp [over, List.mapIdx_cons]; exact rfl) (stX0 _) kbr ?_ ?_
      · refine ⟨?_, ?_, ?_, ?_, ?_, ?_, ?_, ?_, trivial⟩
        all_goals (intro us wx hst hd; rw [if_pos (by kernel_rfl)]; dsimp only)
        · clear hd
          go_simp
          exact (l27Words_any wx).mono fun e w' ⟨v, he, hr, hb⟩ => ⟨v, he, kb_below hst hb hr⟩
        · clear hd
          go_simp
          exact kb_same hst rfl
        · have d0 : RowF 5 (fun i => .string (wordB i)) (us 22) wx := hd ⟨0, .data⟩ (by simp) rfl
          have d1 : us 23 = .int .i64 (k : Int) := hd ⟨1, .data⟩ (by simp) rfl
          clear hd
          obtain ⟨br, er, hcr⟩ := row_at d0
          have hck := hcr k hlt
          clear hcr d0
          go_simp
          exact kb_same hst ⟨br, k, rfl, hck⟩
        · obtain ⟨bq, oq, dq, hcq⟩ : ∃ b o, us 24 = .pointer (some ⟨b, o, none⟩) ∧ wx.cell? ⟨b, o, none⟩ = some (.string (wordB k)) := hd ⟨2, .data⟩ (by simp) rfl
          clear hd
          go_simp
          exact kb_same hst rfl
        · clear hd
          go_simp
          exact kb_same hst rfl
        · have d0 : us 26 = .slice (some ⟨b0, o0, none⟩) (bs.length + 1) cp := hd ⟨4, .data⟩ (by simp) rfl
          clear hd
          have hcx : wx.cell? ⟨b0, o0, none⟩ = some (.string b) := (hst.cell (p := ⟨b0, o0, none⟩) hlr).trans hwr
          go_simp
          exact kb_same hst ⟨b0, o0, rfl, hcx⟩
        · obtain ⟨bq, oq, dq, hcq⟩ : ∃ b' o, us 27 = .pointer (some ⟨b', o, none⟩) ∧ wx.cell? ⟨b', o, none⟩ = some (.string b) := hd ⟨5, .data⟩ (by simp) rfl
          clear hd
          go_simp
          exact kb_same hst rfl
        · have d0 : us 25 = .string (wordB k) := hd ⟨3, .data⟩ (by simp) rfl
          have d1 : us 28 = .string b := hd ⟨6, .data⟩ (by simp) rfl
          clear hd
          go_simp
          exact kb_same hst rfl
      · intro us wx hst hd
        have d7 : us 29 = .bool ((wordB k).toList == b.toList) := hd 7 (by simp)
        have HBW := Lib.hid (HBL.out.trans (hst.mono HBL.out.size))
        have hbx := blkK hst HBX.out
        clear hd hst hwr hlr
        simp only [List.drop, List.length]
        rw [d7]
        clear d7
        by_cases hkk : kindOf h = k + 1
        · have e1 : ((wordB k).toList == b.toList) = true := by
            rw [beq_iff_eq, ByteArray.toList_eq, ByteArray.toList_eq, HBH.out]
            simpa [wordB] using (word_kind hlt).2 hkk
          rw [e1]
          obtain ⟨hcb, hfb⟩ := heap_cellR hbx
          have HX := Lib.hid hbx
          have HKK := Lib.hid (kindTo_yes hkk)
          have e5 : IntKind.i64.wrap ((k : Int) + 1) = (k : Int) + 1 := IntWalk.i64_in _ (by omega)
          clear e1 hkk hbx
          go_wp2_with fail
          refine ⟨⟨k + 1, by omega, by go_num, ?_, HBW.out.setCell (Nat.le_refl _) _⟩, by simp [intOf]; omega⟩
          rw [HKK.out]
          exact src_set HX.out 0 _
        · have e1 : ((wordB k).toList == b.toList) = false := by
            rw [Bool.eq_false_iff]
            intro e
            rw [beq_iff_eq, ByteArray.toList_eq, ByteArray.toList_eq, HBH.out] at e
            exact hkk ((word_kind hlt).1 (by simpa [wordB] using e))
          rw [e1]
          have HKK := Lib.hid (kindTo_no hkk)
          have HX := Lib.hid hbx
          clear e1 hkk hbx
          go_wp2_with fail
          refine ⟨⟨k + 1, by omega, by go_num, ?_, HBW.out⟩, by simp [intOf]; omega⟩
          rw [HKK.out]
          exact HX.out
    · obtain rfl : k = 5 := by omega
      have hlti : ¬ ((5 : Nat) : Int) < 5 := by omega
      rw [kindTo_five] at hbox
      have HBX := Lib.hid hbox
      have HK5 := Lib.hid (kindOf_le h)
      have hx0 := blkK HBL.out HX0.out
      obtain ⟨hc0, hf0⟩ := heap_cellR hx0
      obtain ⟨hc1, hf1⟩ := heap_cellR hbox
      have hne1 : ¬ w.heap.size = w1.heap.size := by omega
      by_cases hk0 : kindOf h = 0
      · have HZ := Lib.hid ((congrArg spOne HC.out).trans (spOne_zero (t := t) hk0))
        have hk0' : ((kindOf h : Nat) : Int) = 0 := by omega
        rw [hk0'] at hc1
        clear hbl hbox hk0 hk0' hx0 hw0
        go_wp2_with fail
        refine bodyPost_ret (v := .tuple #[.agg #[.int .i64 0, .int .i64 0, .int .i64 0, .int .i64 0, .int .i64 0, .int .i64 0], .bool false]) (by simp [results, Tryd.results23, go_sem, hc0]) rfl (retOne_no HZ.out _ _ _ _ _ _ ?_)
        iterate 6 (refine Below.setCell ?_ (by dsimp only; omega) _)
        exact HB1.out.trans (HBL.out.mono (by omega))
      · have hk0' : (((kindOf h : Nat) : Int) == 0) = false := by simp; omega
        obtain ⟨K, hK⟩ : ∃ K, kindOf h = K := ⟨_, rfl⟩
        have HK := Lib.hid hK
        rw [hK] at hc1 hk0' hk0 HK5 HBX
        clear hbl hw0 hK hbox
        go_wp2_with fail
        refine (l27Fields_any (K : Nat) _).mono ?_
        rintro e w3 ⟨v3, rfl, hrow, hb3⟩
        obtain ⟨bf, rfl, hcf⟩ := row_at hrow
        have HCF := Lib.hid hcf
        have HB3 := Lib.hid (bt0 HBL.out hb3 (Nat.le_refl _))
        have HB4 := Lib.hid (bt0 HB1.out HB3.out (by omega))
        have HY0 := Lib.hid (blkK HB3.out HX0.out)
        have HYD := Lib.hid (blkK hb3 HBX.out)
        have HSS := Lib.hid (HST.out.below HB3.out)
        have hl3 : w1.heap.size < w3.heap.size := blkLt (blkK hb3 HBX.out)
        clear hrow hcf hb3 hc0 hf0 hc1 hf1 hx0
        go_wp2_with fail
        have HOI : Hid (OwnI (w3.alloc (.cells #[.int .i64 0, .int .i64 0, .int .i64 0, .int .i64 0, .int .i64 0] 2)) w3.heap.size (.slice (some ⟨w3.heap.size, 0, none⟩) 5 5) [0, 0, 0, 0, 0]) := Lib.hid (World.ownsRow_lit (base := w3.heap.size) (size := 1) w3 #[.int .i64 0, .int .i64 0, .int .i64 0, .int .i64 0, .int .i64 0] 5 (Nat.le_refl _) (by unfold maxLen; omega) rfl)
        go_loopw [9, 10, 11, 12, 13, 14] (fun q i _ _ _ _ wr => ∃ (k a : Nat) (nums : List Int), i = .int .i64 k ∧ q = .int .i64 ((a : Int) + 1) ∧ a ≤ bs.length ∧ NumI (spFl K) t k a nums ∧ OwnI wr w3.heap.size (.slice (some ⟨w3.heap.size, 0, none⟩) 5 5) (nums ++ List.replicate (5 - k) 0) ∧ Below w3.heap.size w3 wr) (fun _ i _ _ _ _ _ => 5 - (intOf i).toNat)
        case atStart => exact ⟨0, 0, [], rfl, rfl, Nat.zero_le _, numI_start _ _, HOI.out, ba1 _ _⟩
        case round =>
          clear HOI
          obtain ⟨k, a, nums, rfl, rfl, ha, hn, hoi, hb5⟩ := hrel
          have HN := Lib.hid hn
          have HO := Lib.hid hoi
          have HB5 := Lib.hid hb5
          have hkl := hn.kl
          have HBW := Lib.hid (bt0 HB4.out hb5 (Nat.le_refl _))
          obtain ⟨hcy, hfy⟩ := heap_cellR (blkK hb5 HY0.out)
          obtain ⟨hcd, hfd⟩ := heap_cellR (blkK hb5 HYD.out)
          clear hn hoi hb5
          by_cases hlt : k < 5
          · have hlti : (k : Int) < 5 := by omega
            have hf0 := (HB5.out.cell (p := ⟨bf, k, none⟩) (lt_of_cell (HCF.out k hlt))).trans (HCF.out k hlt)
            have hsp := spFl_at (K := K) (i := k) (by omega) HK5.out hlt
            obtain ⟨f, hf⟩ : ∃ f, flB (K : Int) k = f := ⟨_, rfl⟩
            rw [hf] at hf0 hsp
            have HSP := Lib.hid hsp
            clear hf hsp
            cases f with
            | false =>
              clear hcy hcd
              go_wp2_with fail
              refine ⟨⟨k + 1, a, nums ++ [0], by go_num, rfl, ha, numI_skip HN.out HSP.out hlt, ?_, HB5.out⟩, by simp [intOf]; omega⟩
              rw [← zs_skip hlt]; exact HO.out
            | true =>
              by_cases hab : a < bs.length
              · obtain ⟨x, hx⟩ : ∃ x, bs[a]? = some x := ⟨_, List.getElem?_eq_getElem hab⟩
                have hxm : x.size ≤ 1048576 := HLS.out x (List.mem_cons_of_mem _ (List.mem_of_getElem? hx))
                have hxt : t[a]? = some x.data.toList := by rw [← HBT.out, bytesL, List.getElem?_map, hx]; rfl
                have hcx : wr.cell? ⟨b0, o0 + (a + 1), none⟩ = some (.string x) := by
                  obtain ⟨b9, o9, e9, hc9⟩ := (HSS.out.below HB5.out) (a + 1) (by simpa using hab)
                  simp only [Option.some.injEq, Addr.mk.injEq, and_true] at e9
                  obtain ⟨rfl, rfl⟩ := e9
                  rw [hc9]
                  simp only [List.getElem_cons_succ]
                  rw [(List.getElem?_eq_some_iff.1 hx).2]
                have hai : ¬ ((bs.length : Int) + 1 ≤ (a : Int) + 1) := by omega
                have HXT := Lib.hid hxt
                clear hx hxt
                by_cases hx0 : x.size = 0
                · have hxi : ¬ (0 : Int) < ((x.size : Nat) : Int) := by omega
                  go_wp2_with fail
                  have HSG := Lib.hid (sgn_plus (x := x) (fun r e => by have := congrArg List.length e; have h2 : x.data.toList.length = x.size := rfl; simp at this; omega))
                  clear hxi hx0
                  refine (l01Value_any x _ hxm).mono ?_
                  rintro e w5 ⟨v, rfl, hv, ⟨hv0, hv1⟩, hb6⟩
                  have HB6 := Lib.hid (bt0 HB5.out hb6 (Nat.le_refl _))
                  have HO6 := Lib.hid (HO.out.grown hb6)
                  have HBW6 := Lib.hid (bt0 HBW.out hb6 (Nat.le_refl _))
                  obtain ⟨hcy6, hfy6⟩ := heap_cellR (blkK hb6 (blkK HB5.out HY0.out))
                  obtain ⟨hcd6, hfd6⟩ := heap_cellR (blkK hb6 (blkK HB5.out HYD.out))
                  have HV := Lib.hid hv
                  clear hv hb6 hcy hcd hfy hfd hf0 hcx
                  cases ho : valS (x).data.toList with
                  | none =>
                    have HZ := Lib.hid ((congrArg spOne HC.out).trans (spOne_none (h := h) (t := t) (by rw [HK.out]; exact numI_none HN.out HSP.out HXT.out (by rw [HSG.out, ho]))))
                    have e9 : (none : Option Int).isSome = false := rfl
                    rw [e9]
                    clear ho e9
                    go_wp2_with fail
                    refine bodyPost_ret (v := .tuple #[.agg #[.int .i64 (K : Nat), .int .i64 0, .int .i64 0, .int .i64 0, .int .i64 0, .int .i64 0], .bool false]) (by simp [results, Tryd.results23, go_sem, hcy6]) rfl (retOne_no HZ.out _ _ _ _ _ _ ?_)
                    iterate 6 (refine Below.setCell ?_ (by dsimp only; omega) _)
                    exact HBW6.out
                  | some n =>
                    obtain rfl := HV.out n ho
                    have HSN : Hid (sgnS x.data.toList = some (v)) := Lib.hid (by rw [HSG.out, ho])
                    obtain ⟨z, -, hcz, hfz⟩ := HO6.out.cellAt (k := k) (by simp [HN.out.len]; omega) (by simp [HN.out.len]; omega)
                    have e9 : (some v : Option Int).isSome = true := rfl
                    rw [e9]
                    have e8 : IntKind.i64.wrap v = v := IntWalk.i64_in _ (by omega)
                    clear ho e9 hcy6 hcd6 hfy6 hfd6
                    go_wp2_with fail
                    refine ⟨⟨k + 1, a + 1, nums ++ [v], by go_num, by go_num, by omega, numI_some HN.out HSP.out hlt HXT.out HSN.out, ?_, HB6.out.setCell (Nat.le_refl _) _⟩, by simp [intOf]; omega⟩
                    rw [← zs_set HN.out.len hlt]
                    exact (HO6.out.stored (by simp [HN.out.len]; omega) k (v)).1
                have hxi : (0 : Int) < ((x.size : Nat) : Int) := by omega
                have hxp : 0 < x.size := by omega
                by_cases hx1 : x[0] = 45
                · have hx2 : (((x[0].toNat : Nat) : Int) == 45) = true := by rw [hx1]; rfl
                  go_wp2_with fail
                  have HSG := Lib.hid (sgn_minus (x := x) (r := (x.extract 1 x.size).data.toList) (by rw [extract_toList]; exact minus_cons hxp hx1))
                  clear hxi hx0 hx2 hx1
                  refine (l01Value_any (x.extract 1 x.size) _ (by rw [ByteArray.size_extract]; omega)).mono ?_
                  rintro e w5 ⟨v, rfl, hv, ⟨hv0, hv1⟩, hb6⟩
                  have HB6 := Lib.hid (bt0 HB5.out hb6 (Nat.le_refl _))
                  have HO6 := Lib.hid (HO.out.grown hb6)
                  have HBW6 := Lib.hid (bt0 HBW.out hb6 (Nat.le_refl _))
                  obtain ⟨hcy6, hfy6⟩ := heap_cellR (blkK hb6 (blkK HB5.out HY0.out))
                  obtain ⟨hcd6, hfd6⟩ := heap_cellR (blkK hb6 (blkK HB5.out HYD.out))
                  have HV := Lib.hid hv
                  clear hv hb6 hcy hcd hfy hfd hf0 hcx
                  cases ho : valS ((x.extract 1 x.size)).data.toList with
                  | none =>
                    have HZ := Lib.hid ((congrArg spOne HC.out).trans (spOne_none (h := h) (t := t) (by rw [HK.out]; exact numI_none HN.out HSP.out HXT.out (by rw [HSG.out, ho]))))
                    have e9 : (none : Option Int).isSome = false := rfl
                    rw [e9]
                    clear ho e9
                    go_wp2_with fail
                    refine bodyPost_ret (v := .tuple #[.agg #[.int .i64 (K : Nat), .int .i64 0, .int .i64 0, .int .i64 0, .int .i64 0, .int .i64 0], .bool false]) (by simp [results, Tryd.results23, go_sem, hcy6]) rfl (retOne_no HZ.out _ _ _ _ _ _ ?_)
                    iterate 6 (refine Below.setCell ?_ (by dsimp only; omega) _)
                    exact HBW6.out
                  | some n =>
                    obtain rfl := HV.out n ho
                    have HSN : Hid (sgnS x.data.toList = some (-v)) := Lib.hid (by rw [HSG.out, ho])
                    obtain ⟨z, -, hcz, hfz⟩ := HO6.out.cellAt (k := k) (by simp [HN.out.len]; omega) (by simp [HN.out.len]; omega)
                    have e9 : (some v : Option Int).isSome = true := rfl
                    rw [e9]
                    have e8 : IntKind.i64.wrap (-1 * v) = -v := by rw [IntWalk.i64_in _ (by omega)]; omega
                    have e7 : IntKind.i64.wrap (-v) = -v := IntWalk.i64_in _ (by omega)
                    clear ho e9 hcy6 hcd6 hfy6 hfd6
                    go_wp2_with fail
                    refine ⟨⟨k + 1, a + 1, nums ++ [-v], by go_num, by go_num, by omega, numI_some HN.out HSP.out hlt HXT.out HSN.out, ?_, HB6.out.setCell (Nat.le_refl _) _⟩, by simp [intOf]; omega⟩
                    rw [← zs_set HN.out.len hlt]
                    exact (HO6.out.stored (by simp [HN.out.len]; omega) k (-v)).1
                · have hx2 : (((x[0].toNat : Nat) : Int) == 45) = false := by
                    rw [Bool.eq_false_iff]; intro e
                    have e2 : ((x[0].toNat : Nat) : Int) = 45 := by simpa using e
                    exact hx1 (UInt8.toNat_inj.1 (by show x[0].toNat = 45; omega))
                  go_wp2_with fail
                  have HSG := Lib.hid (sgn_plus (x := x) (fun r e => hx1 (plus_cons hxp e)))
                  clear hxi hx0 hx2 hx1
                  refine (l01Value_any x _ hxm).mono ?_
                  rintro e w5 ⟨v, rfl, hv, ⟨hv0, hv1⟩, hb6⟩
                  have HB6 := Lib.hid (bt0 HB5.out hb6 (Nat.le_refl _))
                  have HO6 := Lib.hid (HO.out.grown hb6)
                  have HBW6 := Lib.hid (bt0 HBW.out hb6 (Nat.le_refl _))
                  obtain ⟨hcy6, hfy6⟩ := heap_cellR (blkK hb6 (blkK HB5.out HY0.out))
                  obtain ⟨hcd6, hfd6⟩ := heap_cellR (blkK hb6 (blkK HB5.out HYD.out))
                  have HV := Lib.hid hv
                  clear hv hb6 hcy hcd hfy hfd hf0 hcx
                  cases ho : valS (x).data.toList with
                  | none =>
                    have HZ := Lib.hid ((congrArg spOne HC.out).trans (spOne_none (h := h) (t := t) (by rw [HK.out]; exact numI_none HN.out HSP.out HXT.out (by rw [HSG.out, ho]))))
                    have e9 : (none : Option Int).isSome = false := rfl
                    rw [e9]
                    clear ho e9
                    go_wp2_with fail
                    refine bodyPost_ret (v := .tuple #[.agg #[.int .i64 (K : Nat), .int .i64 0, .int .i64 0, .int .i64 0, .int .i64 0, .int .i64 0], .bool false]) (by simp [results, Tryd.results23, go_sem, hcy6]) rfl (retOne_no HZ.out _ _ _ _ _ _ ?_)
                    iterate 6 (refine Below.setCell ?_ (by dsimp only; omega) _)
                    exact HBW6.out
                  | some n =>
                    obtain rfl := HV.out n ho
                    have HSN : Hid (sgnS x.data.toList = some (v)) := Lib.hid (by rw [HSG.out, ho])
                    obtain ⟨z, -, hcz, hfz⟩ := HO6.out.cellAt (k := k) (by simp [HN.out.len]; omega) (by simp [HN.out.len]; omega)
                    have e9 : (some v : Option Int).isSome = true := rfl
                    rw [e9]
                    have e8 : IntKind.i64.wrap v = v := IntWalk.i64_in _ (by omega)
                    clear ho e9 hcy6 hcd6 hfy6 hfd6
                    go_wp2_with fail
                    refine ⟨⟨k + 1, a + 1, nums ++ [v], by go_num, by go_num, by omega, numI_some HN.out HSP.out hlt HXT.out HSN.out, ?_, HB6.out.setCell (Nat.le_refl _) _⟩, by simp [intOf]; omega⟩
                    rw [← zs_set HN.out.len hlt]
                    exact (HO6.out.stored (by simp [HN.out.len]; omega) k (v)).1
              · have hai : (bs.length : Int) + 1 ≤ (a : Int) + 1 := by omega
                have HZ := Lib.hid ((congrArg spOne HC.out).trans (spOne_none (h := h) (t := t) (by rw [HK.out]; exact numI_short HN.out HSP.out (by rw [← HBT.out, bytesL, List.length_map]; omega))))
                go_wp2_with fail
                refine bodyPost_ret (v := .tuple #[.agg #[.int .i64 (K : Nat), .int .i64 0, .int .i64 0, .int .i64 0, .int .i64 0, .int .i64 0], .bool false]) (by simp [results, Tryd.results23, go_sem, hcy]) rfl (retOne_no HZ.out _ _ _ _ _ _ ?_)
                iterate 6 (refine Below.setCell ?_ (by dsimp only; omega) _)
                exact HBW.out
          · obtain rfl : k = 5 := by omega
            have hlti : ¬ ((5 : Nat) : Int) < 5 := by omega
            obtain ⟨r, c, t2, v, g, rfl⟩ := five_list HN.out.len
            have HZ := Lib.hid ((congrArg spOne HC.out).trans (spOne_some (h := h) (t := t) (by rw [HK.out]; exact hk0) (by rw [HK.out]; exact numI_end HN.out)))
            obtain ⟨z0, hy0, hz0, -⟩ := HO.out.cellAt (k := 0) rfl (by simp)
            obtain rfl : r = z0 := by simpa using hy0
            obtain ⟨z1, hy1, hz1, -⟩ := HO.out.cellAt (k := 1) rfl (by simp)
            obtain rfl : c = z1 := by simpa using hy1
            obtain ⟨z2, hy2, hz2, -⟩ := HO.out.cellAt (k := 2) rfl (by simp)
            obtain rfl : t2 = z2 := by simpa using hy2
            obtain ⟨z3, hy3, hz3, -⟩ := HO.out.cellAt (k := 3) rfl (by simp)
            obtain rfl : v = z3 := by simpa using hy3
            obtain ⟨z4, hy4, hz4, -⟩ := HO.out.cellAt (k := 4) rfl (by simp)
            obtain rfl : g = z4 := by simpa using hy4
            have hld : w1.heap.size < wr.heap.size := by have := HB5.out.size; omega
            clear hy0 hy1 hy2 hy3 hy4 hk0'
            go_wp2_with fail
            refine wp_region_rs (Keep := KB) [85, 86, 87, 88, 89, 90, 91, 92, 93, 94, 95, 96, 97, 98, 99, 100, 101, 102] (fun us => _)
              [spE (.pointer (some ⟨w1.heap.size, 0, none⟩)), spE (.int .i64 (K : Nat)), spE (.slice (some ⟨w3.heap.size, 0, none⟩) 5 5), spE (.pointer (some ⟨w3.heap.size, 0, none⟩)), spE (.int .i64 r), spE (.slice (some ⟨w3.heap.size, 0, none⟩) 5 5), spE (.pointer (some ⟨w3.heap.size, 1, none⟩)), spE (.int .i64 c), spE (.slice (some ⟨w3.heap.size, 0, none⟩) 5 5), spE (.pointer (some ⟨w3.heap.size, 2, none⟩)), spE (.int .i64 t2), spE (.slice (some ⟨w3.heap.size, 0, none⟩) 5 5), spE (.pointer (some ⟨w3.heap.size, 3, none⟩)), spE (.int .i64 v), spE (.slice (some ⟨w3.heap.size, 0, none⟩) 5 5), spE (.pointer (some ⟨w3.heap.size, 4, none⟩)), spE (.int .i64 g), spE (.agg #[.int .i64 (K : Nat), .int .i64 r, .int .i64 c, .int .i64 t2, .int .i64 v, .int .i64 g])]
              (StX wr) (by kernel_rfl) (by kernel_rfl) (Nat.le_of_ble_eq_true rfl) (fun us => by simp [over, List.mapIdx_cons]; exact rfl) (stX0 _) kbr ?_ ?_
            · refine ⟨?_, ?_, ?_, ?_, ?_, ?_, ?_, ?_, ?_, ?_, ?_, ?_, ?_, ?_, ?_, ?_, ?_, ?_, trivial⟩
              all_goals (intro us wx hst hd; rw [if_pos (by kernel_rfl)]; dsimp only)
              · clear hd
                go_simp
                exact kb_same hst rfl
              · have d0 : us 85 = .pointer (some ⟨w1.heap.size, 0, none⟩) := hd ⟨0, .data⟩ (by simp) rfl
                clear hd
                have hB := boxB hst hcd hld
                go_simp
                exact kb_same hst rfl
              · clear hd
                go_simp
                exact kb_same hst rfl
              · have d0 : us 87 = .slice (some ⟨w3.heap.size, 0, none⟩) 5 5 := hd ⟨2, .data⟩ (by simp) rfl
                clear hd
                go_simp
                exact kb_same hst rfl
              · have d0 : us 88 = .pointer (some ⟨w3.heap.size, 0, none⟩) := hd ⟨3, .data⟩ (by simp) rfl
                clear hd
                have hB := (hst.cell (p := ⟨w3.heap.size, 0, none⟩) (lt_of_cell hz0)).trans hz0
                go_simp
                exact kb_same hst rfl
              · clear hd
                go_simp
                exact kb_same hst rfl
              · have d0 : us 90 = .slice (some ⟨w3.heap.size, 0, none⟩) 5 5 := hd ⟨5, .data⟩ (by simp) rfl
                clear hd
                go_simp
                exact kb_same hst rfl
              · have d0 : us 91 = .pointer (some ⟨w3.heap.size, 1, none⟩) := hd ⟨6, .data⟩ (by simp) rfl
                clear hd
                have hB := (hst.cell (p := ⟨w3.heap.size, 1, none⟩) (lt_of_cell hz1)).trans hz1
                go_simp
                exact kb_same hst rfl
              · clear hd
                go_simp
                exact kb_same hst rfl
              · have d0 : us 93 = .slice (some ⟨w3.heap.size, 0, none⟩) 5 5 := hd ⟨8, .data⟩ (by simp) rfl
                clear hd
                go_simp
                exact kb_same hst rfl
              · have d0 : us 94 = .pointer (some ⟨w3.heap.size, 2, none⟩) := hd ⟨9, .data⟩ (by simp) rfl
                clear hd
                have hB := (hst.cell (p := ⟨w3.heap.size, 2, none⟩) (lt_of_cell hz2)).trans hz2
                go_simp
                exact kb_same hst rfl
              · clear hd
                go_simp
                exact kb_same hst rfl
              · have d0 : us 96 = .slice (some ⟨w3.heap.size, 0, none⟩) 5 5 := hd ⟨11, .data⟩ (by simp) rfl
                clear hd
                go_simp
                exact kb_same hst rfl
              · have d0 : us 97 = .pointer (some ⟨w3.heap.size, 3, none⟩) := hd ⟨12, .data⟩ (by simp) rfl
                clear hd
                have hB := (hst.cell (p := ⟨w3.heap.size, 3, none⟩) (lt_of_cell hz3)).trans hz3
                go_simp
                exact kb_same hst rfl
              · clear hd
                go_simp
                exact kb_same hst rfl
              · have d0 : us 99 = .slice (some ⟨w3.heap.size, 0, none⟩) 5 5 := hd ⟨14, .data⟩ (by simp) rfl
                clear hd
                go_simp
                exact kb_same hst rfl
              · have d0 : us 100 = .pointer (some ⟨w3.heap.size, 4, none⟩) := hd ⟨15, .data⟩ (by simp) rfl
                clear hd
                have hB := (hst.cell (p := ⟨w3.heap.size, 4, none⟩) (lt_of_cell hz4)).trans hz4
                go_simp
                exact kb_same hst rfl
              · have d0 : us 86 = .int .i64 (K : Nat) := hd ⟨1, .data⟩ (by simp) rfl
                have d1 : us 89 = .int .i64 r := hd ⟨4, .data⟩ (by simp) rfl
                have d2 : us 92 = .int .i64 c := hd ⟨7, .data⟩ (by simp) rfl
                have d3 : us 95 = .int .i64 t2 := hd ⟨10, .data⟩ (by simp) rfl
                have d4 : us 98 = .int .i64 v := hd ⟨13, .data⟩ (by simp) rfl
                have d5 : us 101 = .int .i64 g := hd ⟨16, .data⟩ (by simp) rfl
                clear hd
                go_simp
                exact kb_same hst rfl
            · intro us wx hst hd
              have dz : us 102 = .agg #[.int .i64 (K : Nat), .int .i64 r, .int .i64 c, .int .i64 t2, .int .i64 v, .int .i64 g] := hd 17 (by simp)
              have hcy9 := boxB hst hcy (by omega)
              have hfy9 := (heap_cellR (blkK hst (blkK HB5.out HY0.out))).2
              have HBX9 := Lib.hid (bt0 HBW.out hst (Nat.le_refl _))
              clear hd hst hcd hcy hz0 hz1 hz2 hz3 hz4
              simp only [List.drop, List.length]
              rw [dz]
              clear dz
              go_wp2_with fail
              refine bodyPost_ret (v := .tuple #[.agg #[.int .i64 (K : Nat), .int .i64 r, .int .i64 c, .int .i64 t2, .int .i64 v, .int .i64 g], .bool true]) (by simp [results, Tryd.results23, go_sem, hcy9]) rfl (retOne_yes _ _ _ _ _ _ (by rw [HZ.out, HK.out]) ?_)
              iterate 6 (refine Below.setCell ?_ (by dsimp only; omega) _)
              exact HBX9.out

end Go.Proofs.YtkmfgchbfchdbaaDoor
