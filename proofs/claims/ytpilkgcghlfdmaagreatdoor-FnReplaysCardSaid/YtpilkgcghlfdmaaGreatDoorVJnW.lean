import Derived.Test.YtpilkgcghlfdmaaGreatDoorM2
namespace Go.Proofs.YtpilkgcghlfdmaaGreatDoor
open Go.RowKit

theorem spRecJ_end {f n : Nat} {s : Int} {L : List (List UInt8)} (h : L.length < 2 ∨ f = 0) : spRecJ f n s L = [] := by
  cases f with
  | zero => rw [spRecJ]
  | succ f =>
    match L, h with
    | [], _ => rw [spRecJ]; simp
    | [p], _ => rw [spRecJ]; simp
    | p :: q :: t, h => simp at h; omega
theorem spRecJ_at {f n : Nat} {s : Int} {L : List (List UInt8)} {k : Nat} {p : List UInt8} (hp : L[k]? = some p) (hk : k + 1 < L.length) :
    spRecJ (f + 1) n s (L.drop k) = if (spReadJ p).ok = true ∧ lineJ n s (spReadJ p) = p then spReadJ p :: spRecJ f (n + 1) (nextJ n s (spReadJ p)) (L.drop (k + 1)) else [] := by
  have hk0 : k < L.length := by omega
  have e1 : L.drop k = p :: L.drop (k + 1) := by
    rw [List.drop_eq_getElem_cons hk0]
    congr 1
    rw [List.getElem?_eq_getElem hk0] at hp
    exact Option.some.inj hp
  have e2 : L.drop (k + 1) = L[k + 1] :: L.drop (k + 1 + 1) := List.drop_eq_getElem_cons hk
  rw [e1, e2, spRecJ]

/-- what stands at the beginning of a round of the reference's reading -/
structure RcpSt (w : World) (L : List (List UInt8)) (l : List Rc) (a : Option Addr) (c base : Nat) (wr : World) : Prop where
  ok : ∀ r ∈ l, r.ok = true
  len : l.length ≤ 300
  got : spRecJ 300 0 0 L = l ++ spRecJ (300 - l.length) l.length (lastJ 0 0 l) (L.drop l.length)
  own : rcE.Own wr base (.slice a l.length c) l
  bel : Below w.heap.size w wr
theorem RcpSt.end_ {w : World} {L : List (List UInt8)} {l : List Rc} {a : Option Addr} {c base : Nat} {wr : World} (h : RcpSt w L l a c base wr) (he : spRecJ (300 - l.length) l.length (lastJ 0 0 l) (L.drop l.length) = []) : spRecJ 300 0 0 L = l := by
  rw [h.got, he, List.append_nil]
theorem RcpSt.size {w : World} {L : List (List UInt8)} {l : List Rc} {a : Option Addr} {c base : Nat} {wr : World} (h : RcpSt w L l a c base wr) : (textJ 0 0 l).length ≤ 6000 := by
  have := textJ_len l 0 0 (by have := h.len; omega) (by omega) h.ok
  have := h.len
  omega

/-- what the reference reads -/
def RetRcp (w : World) (l0 : List Rc) (e : Ending) (w' : World) : Prop := ∃ a c l, l = l0 ∧ e = .returned (.tuple #[.slice a l.length c, .int .i64 ((textJ 0 0 l).length : Int)]) ∧ rcE.Own w' w.heap.size (.slice a l.length c) l ∧ (∀ r ∈ l, r.ok = true) ∧ l.length ≤ 300 ∧ Below w.heap.size w w'

set_option maxRecDepth 100000 in
set_option maxHeartbeats 1000000 in
theorem l32Recover_any (s : ByteArray) (w : World) (hs : s.size ≤ 1048576) :
    Calls Tryz.prog 42 #[.string s] w (RetRcp w (recJ 300 0 0 s.data.toList)) := by
  have HRS := Lib.hid (rec_sp 300 0 0 s.data.toList)
  go_enter Tryz.func42, Tryz.ntmps42
  go_wp2_with fail
  refine (l01Split_any s 10 _ hs).mono ?_
  rintro e w1 ⟨ss, a0, cp, hss, rfl, ho, hb1⟩
  have HB1 := Lib.hid hb1
  have HST := Lib.hid ho.strs
  have hlen : ss.length ≤ 1048577 := by
    have h1 := congrArg List.length hss
    have h2 := (cut_len 10 s.data.toList).1
    have h3 : s.data.toList.length = s.size := rfl
    rw [bytesL, List.length_map] at h1
    omega
  have hsz : ∀ b ∈ ss, b.size ≤ 1048576 := fun x hx => Nat.le_trans ((cut_len 10 s.data.toList).2 _ (by rw [← hss]; exact List.mem_map.2 ⟨x, hx, rfl⟩)) hs
  have HSZ := Lib.hid hsz
  rw [← hss] at HRS
  have hbl : (bytesL ss).length = ss.length := by rw [bytesL, List.length_map]
  have HBL := Lib.hid hbl
  have H0 : Hid (RcpSt w1 (bytesL ss) [] (some ⟨w1.heap.size, 0, none⟩) 0 w1.heap.size (w1.alloc (.cells #[] 53 (0, 0)))) := Lib.hid ⟨by simp, by simp, by simp [lastJ], Enc.Own.new rcE w1, ba1 _ _⟩
  clear ho hb1 hsz hss hbl
  go_wp2_with fail
  go_loopw [5, 6, 7, 8, 9, 10, 11] (fun v q z i _ _ _ wr => ∃ (l : List Rc) (a : Option Addr) (c : Nat), v = .slice a l.length c ∧ q = .int .i64 (lastJ 0 0 l) ∧ z = .int .i64 ((textJ 0 0 l).length : Int) ∧ i = .int .i64 (l.length : Int) ∧ RcpSt w1 (bytesL ss) l a c w1.heap.size wr) (fun _ _ _ i _ _ _ _ => 300 - (intOf i).toNat)
  case atStart => exact ⟨[], _, 0, rfl, rfl, rfl, rfl, H0.out⟩
  case round =>
    clear H0
    obtain ⟨l, a, c, rfl, rfl, rfl, rfl, hst⟩ := hrel
    have HS := Lib.hid hst
    have hl300 := hst.len
    have hl6 := hst.size
    have hwr := hst.bel.size
    have hlr := lastJ_range l 0 (s := 0) (by omega)
    obtain ⟨K, hK⟩ : ∃ K, l.length = K := ⟨_, rfl⟩
    have HK := Lib.hid hK
    obtain ⟨N, hN⟩ : ∃ N, (textJ 0 0 l).length = N := ⟨_, rfl⟩
    have HN := Lib.hid hN
    rw [hK] at hl300 ⊢
    rw [hN] at hl6 ⊢
    have e1 : IntKind.i64.wrap ((K : Int) + 1) = (K : Int) + 1 := IntWalk.i64_in _ (by omega)
    clear hst hK hN
    have FIN : Hid (∀ w', Below wr.heap.size wr w' → spRecJ (300 - l.length) l.length (lastJ 0 0 l) ((bytesL ss).drop l.length) = [] → RetRcp w (recJ 300 0 0 s.data.toList) (.returned (.tuple #[.slice a K c, .int .i64 (N : Int)])) w') := Lib.hid (fun w' hb he => ⟨a, c, l, by rw [HRS.out]; exact (HS.out.end_ he).symm, by rw [HK.out, HN.out], (HS.out.own.weak HB1.out.size).grown hb, HS.out.ok, HS.out.len, bt0 HB1.out (bt0 HS.out.bel hb (Nat.le_refl _)) (Nat.le_refl _)⟩)
    by_cases hmore : K + 1 < ss.length ∧ K < 300
    · obtain ⟨hm1, hm2⟩ := hmore
      have hm1' : (K : Int) + 1 < (ss.length : Int) := by omega
      have hm2' : (K : Int) < 300 := by omega
      obtain ⟨b1, o1, p, rfl, hpk, hb1, hc1⟩ := (HST.out.below HS.out.bel).at (show K < ss.length by omega)
      have hpz := HSZ.out p (List.mem_of_getElem? hpk)
      have HAT : Hid (spRecJ (300 - l.length) l.length (lastJ 0 0 l) ((bytesL ss).drop l.length) = if (spReadJ p.data.toList).ok = true ∧ lineJ l.length (lastJ 0 0 l) (spReadJ p.data.toList) = p.data.toList then spReadJ p.data.toList :: spRecJ (299 - l.length) (l.length + 1) (nextJ l.length (lastJ 0 0 l) (spReadJ p.data.toList)) ((bytesL ss).drop (l.length + 1)) else []) := Lib.hid (by
        have h := spRecJ_at (f := 299 - l.length) (n := l.length) (s := lastJ 0 0 l) (L := bytesL ss) (k := l.length) (p := p.data.toList) (by rw [HK.out, bytesL, List.getElem?_map, hpk]; rfl) (by rw [HK.out, HBL.out]; exact hm1)
        rw [show 300 - l.length = 299 - l.length + 1 by rw [HK.out]; omega]
        exact h)
      clear hpk
      go_wp2_with fail
      refine (l32Read_any p _ hpz).mono ?_
      rintro e w2 ⟨rfl, hb2⟩
      obtain ⟨r, hr⟩ : ∃ r, spReadJ p.data.toList = r := ⟨_, rfl⟩
      rw [hr] at HAT ⊢
      have HB2 := Lib.hid hb2
      have HX2 := Lib.hid (push_at w2 (.cells #[.int .i64 r.k, .int .i64 r.n] 53 (0, 0)))
      have HB3 := Lib.hid (bt0 hb2 (ba1 w2 (.cells #[.int .i64 r.k, .int .i64 r.n] 53 (0, 0))) (Nat.le_refl _))
      have hz2 : wr.heap.size ≤ w2.heap.size := hb2.size
      have hc2 := (hb2.cell (p := ⟨b1, o1 + K, none⟩) hb1).trans hc1
      have hl2 := lt_of_cell hc2
      clear hr hb2 hc1 hb1
      rcases Bool.eq_false_or_eq_true (isRecB r.k r.n) with hok | hok
      · have HOK : Hid (r.ok = true) := Lib.hid hok
        go_wp2_with fail
        refine (specIsRecord_val hok).mono ?_
        rintro e w4 ⟨rfl, hb4⟩
        have HB4 := Lib.hid (bt0 HB3.out hb4 (Nat.le_refl _))
        have HX4 := Lib.hid (blkK hb4 HX2.out)
        have hz4 : w2.heap.size < w4.heap.size := blkLt HX4.out
        have hc4 := (heap_cellR HX4.out).1
        have hp4 := (hb4.cell (p := ⟨b1, o1 + K, none⟩) (by simp; omega)).trans (((ba1 w2 _).cell (p := ⟨b1, o1 + K, none⟩) hl2).trans hc2)
        clear hb4 hc2 hl2
        go_wp2_with fail
        refine (l32Line_any K r _ _ HOK.out (by omega) hlr).mono ?_
        rintro e w5 ⟨rfl, hb5⟩
        have HB5 := Lib.hid (bt0 HB4.out hb5 (Nat.le_refl _))
        have HX5 := Lib.hid (blkK hb5 HX4.out)
        have hc5 := (heap_cellR HX5.out).1
        have hz5 : w2.heap.size < w5.heap.size := blkLt HX5.out
        have hp5 := (hb5.cell (p := ⟨b1, o1 + K, none⟩) (lt_of_cell hp4)).trans hp4
        have hll := lineJ_len (n := K) (show K < 1000 by omega) hlr HOK.out
        have hlb : (lineB K (lastJ 0 0 l) r).size ≤ 19 := hll
        obtain ⟨B, hB⟩ : ∃ B, lineB K (lastJ 0 0 l) r = B := ⟨_, rfl⟩
        rw [hB] at hlb ⊢
        have HBB := Lib.hid hB
        clear hb5 hc4 hp4 hB hll
        by_cases hq : B.data.toList = p.data.toList
        · have hbeq : B = p := by apply ByteArray.ext; apply Array.toList_inj.1; exact hq
          have e2 : (B.toList != p.toList) = false := by rw [hbeq]; simp
          have e2' : (B.toList == p.toList) = true := by rw [hbeq]; simp
          have HGO : Hid (spRecJ (300 - l.length) l.length (lastJ 0 0 l) ((bytesL ss).drop l.length) = r :: spRecJ (299 - l.length) (l.length + 1) (nextJ l.length (lastJ 0 0 l) r) ((bytesL ss).drop (l.length + 1))) := Lib.hid (by
            exact HAT.out.trans (if_pos ⟨HOK.out, by rw [HK.out, ← lineB_list, HBB.out]; exact hq⟩))
          have hbx := heap2
          clear hbx hbeq hq
          go_wp2_with (at_builtin; refine wpList_append_rc (o := _) (s := .tmp 49) (x := .tmp 51) rfl rfl w1.heap.size (.slice a K c) l r rfl (by rw [← HK.out]; exact (HS.out.own.grown HB5.out).grown (ba1 w5 _)) w5.heap.size rfl (push_at w5 _) (by rw [HK.out]; omega) (by simp; omega) ?h9)
          case h9 =>
          intro a6 c6 l6 w6 he6 ho6 hg6 hb6
          have HO6 := Lib.hid ho6
          have HL6 := Lib.hid he6
          have HB6 := Lib.hid ((HS.out.bel.trans ((HB5.out.mono hwr).trans ((ba1 w5 _).mono (by omega)))).trans hb6)
          have eN : IntKind.i64.wrap ((N : Int) + (B.size : Int)) = (N : Int) + (B.size : Int) := IntWalk.i64_in _ (by omega)
          have eN2 : IntKind.i64.wrap ((N : Int) + (B.size : Int) + 1) = (N : Int) + (B.size : Int) + 1 := IntWalk.i64_in _ (by omega)
          clear he6 ho6 hg6 hb6
          go_wp2_with fail
          refine ⟨⟨l6, a6, c6, rfl, ?_, ?_, ?_, ?_⟩, ?_⟩
          · rw [HL6.out, lastJ_snoc, Nat.zero_add, HK.out]
          · rw [HL6.out, textJ_snoc, Nat.zero_add, HK.out]
            have h9 : (lineJ K (lastJ 0 0 l) r).length = B.size := by rw [← HBB.out]; rfl
            simp only [List.length_append, List.length_cons, List.length_nil, HN.out, h9]
            congr 1
          · simp [HL6.out, HK.out]
          · refine ⟨?_, ?_, ?_, HO6.out, HB6.out⟩
            · rw [HL6.out]; intro x hx
              rcases List.mem_append.1 hx with hx | hx
              · exact HS.out.ok x hx
              · simp at hx; subst hx; exact HOK.out
            · rw [HL6.out, List.length_append, HK.out]; simp; omega
            · rw [HL6.out, lastJ_snoc, Nat.zero_add, HS.out.got, HGO.out]
              simp [show 300 - (l.length + 1) = 299 - l.length by omega]
          · simp [intOf]; omega
        · have e2 : (B.toList != p.toList) = true := by
            rw [bne, Bool.not_eq_true', beq_eq_false_iff_ne, ne_eq, ByteArray.toList_eq, ByteArray.toList_eq]; exact hq
          have e2' : (B.toList == p.toList) = false := by
            rw [beq_eq_false_iff_ne, ne_eq, ByteArray.toList_eq, ByteArray.toList_eq]; exact hq
          have HE := Lib.hid (HAT.out.trans (if_neg (fun h => hq (by rw [← HBB.out, lineB_list, ← HK.out]; exact h.2))))
          clear hq
          go_wp2_with fail
          go_ret2
          exact FIN.out _ HB5.out HE.out
      · have HE := Lib.hid (HAT.out.trans (if_neg (fun h => by rw [show r.ok = false from hok] at h; exact absurd h.1 (by decide))))
        go_wp2_with fail
        refine (specIsRecord_val hok).mono ?_
        rintro e w4 ⟨rfl, hb4⟩
        have HB4 := Lib.hid (bt0 HB3.out hb4 (Nat.le_refl _))
        clear hb4
        go_wp2_with fail
        go_ret2
        exact FIN.out _ HB4.out HE.out
    · have HE : Hid (spRecJ (300 - l.length) l.length (lastJ 0 0 l) ((bytesL ss).drop l.length) = []) := Lib.hid (spRecJ_end (by
        rw [List.length_drop, HBL.out, HK.out]
        by_cases h1 : K + 1 < ss.length
        · exact .inr (by have : ¬ K < 300 := fun h => hmore ⟨h1, h⟩; omega)
        · exact .inl (by omega)))
      by_cases h1 : K + 1 < ss.length
      · have h2 : ¬ (K : Int) < 300 := by have : ¬ K < 300 := fun h => hmore ⟨h1, h⟩; omega
        have h1' : (K : Int) + 1 < (ss.length : Int) := by omega
        clear hmore
        go_wp2_with fail
        go_ret2
        exact FIN.out _ (Below.refl _ _) HE.out
      · have h1' : ¬ (K : Int) + 1 < (ss.length : Int) := by omega
        clear hmore
        go_wp2_with fail
        go_ret2
        exact FIN.out _ (Below.refl _ _) HE.out

set_option maxRecDepth 100000 in
set_option maxHeartbeats 1000000 in
theorem specRecoverJournal_any (s : ByteArray) (w : World) (hs : s.size ≤ 1048576) :
    Calls Tryz.prog 14 #[.string s] w (RetRJ w s) := by
  by_cases hb : 20000 < s.size
  · have h1 : (20000 : Int) < (s.size : Int) := by omega
    have HO : Hid (overS s = true) := Lib.hid (by simpa [overS] using hb)
    have HR : Hid (recS s = []) := Lib.hid (by rw [recS, if_pos hb])
    clear hb
    go_enter Tryz.func14, Tryz.ntmps14
    go_wp2_with fail
    go_ret3
    exact ⟨none, 0, [], HR.out.symm, by rw [HO.out]; rfl, Enc.Own.nil _ _ _, Below.refl _ _⟩
  · have h1 : ¬ (20000 : Int) < (s.size : Int) := by omega
    have HO : Hid (overS s = false) := Lib.hid (by simpa [overS] using hb)
    have HR : Hid (recS s = recJ 300 0 0 s.data.toList) := Lib.hid (by rw [recS, if_neg hb])
    have HFT := Lib.hid (recS_len s)
    clear hb
    go_enter Tryz.func14, Tryz.ntmps14
    go_wp2_with fail
    refine (l32Recover_any s w hs).mono ?_
    rintro e w1 ⟨a, c, l, hl, rfl, ho, hok, hlen, hb1⟩
    have HL := Lib.hid (HR.out.trans hl.symm)
    have HOW := Lib.hid ho
    have HB1 := Lib.hid hb1
    have hfit : (textJ 0 0 l).length ≤ s.size := by rw [← HL.out]; exact HFT.out
    obtain ⟨N, hN⟩ : ∃ N, (textJ 0 0 l).length = N := ⟨_, rfl⟩
    rw [hN] at hfit ⊢
    have HN := Lib.hid hN
    have e1 : IntKind.i64.wrap ((s.size : Int) - (N : Int)) = (s.size : Int) - (N : Int) := IntWalk.i64_in _ (by omega)
    clear hl ho hok hb1 hN HFT
    go_wp2_with fail
    go_ret3
    exact ⟨a, c, l, HL.out.symm, by rw [HO.out, HN.out]; rfl, HOW.out, HB1.out⟩

end Go.Proofs.YtpilkgcghlfdmaaGreatDoor
