import Derived.Test.YtkmfgchbfchdbaaDoorVJnV
namespace Go.Proofs.YtkmfgchbfchdbaaDoor
open Go.RowKit

/-- the records of the longest journal with which a text begins -/
def recS (s : ByteArray) : List Rc := if 20000 < s.size then [] else recJ 300 0 0 s.data.toList
def overS (s : ByteArray) : Bool := decide (20000 < s.size)
/-- the journal of records as a text -/
def textB (l : List Rc) : ByteArray := ⟨(textJ 0 0 l).toArray⟩
theorem textB_size (l : List Rc) : (textB l).size = (textJ 0 0 l).length := rfl
/-- what RecoverJournal answers -/
def RetRJ (w : World) (s : ByteArray) (e : Ending) (w' : World) : Prop := ∃ a c l, l = recS s ∧ e = .returned (.tuple #[.slice a l.length c, .int .i64 (if overS s = true then 0 else (s.size : Int) - ((textJ 0 0 l).length : Int)), .int .i64 (if overS s = true then 3 else 0)]) ∧ rcE.Own w' w.heap.size (.slice a l.length c) l ∧ Below w.heap.size w w'
theorem recS_prop (s : ByteArray) : (∀ r ∈ recS s, r.ok = true) ∧ (recS s).length ≤ 300 ∧ ∃ t, s.data.toList = textJ 0 0 (recS s) ++ t := by
  unfold recS
  split
  · exact ⟨by simp, by simp, _, by simp [textJ]; rfl⟩
  · exact recJ_prop 300 0 0 s.data.toList
theorem recS_len (s : ByteArray) : (textJ 0 0 (recS s)).length ≤ s.size := by
  obtain ⟨_, _, t, ht⟩ := recS_prop s
  have := congrArg List.length ht
  rw [List.length_append] at this
  have h2 : s.data.toList.length = s.size := rfl
  omega

set_option maxRecDepth 100000 in
set_option maxHeartbeats 1000000 in
theorem recoverJournal_any (s : ByteArray) (w : World) (hs : s.size ≤ 1048576) (hE : Env w) :
    Calls Tryd.prog 13 #[.string s] w (RetRJ w s) := by
  have HE := Lib.hid hE
  clear hE
  by_cases hb : 20000 < s.size
  · have h1 : (20000 : Int) < (s.size : Int) := by omega
    have HO : Hid (overS s = true) := Lib.hid (by simpa [overS] using hb)
    have HR : Hid (recS s = []) := Lib.hid (by rw [recS, if_pos hb])
    clear hb
    go_enter Tryd.func13, Tryd.ntmps13
    go_wp2_with fail
    go_ret3
    exact ⟨none, 0, [], HR.out.symm, by rw [HO.out]; rfl, Enc.Own.nil _ _ _, Below.refl _ _⟩
  · have h1 : ¬ (20000 : Int) < (s.size : Int) := by omega
    have HO : Hid (overS s = false) := Lib.hid (by simpa [overS] using hb)
    have HR : Hid (recS s = recJ 300 0 0 s.data.toList) := Lib.hid (by rw [recS, if_neg hb])
    have hs2 : s.size ≤ 20000 := by omega
    clear hb
    go_enter Tryd.func13, Tryd.ntmps13
    go_wp2_with fail
    refine (recovered_any s w hs2 HE.out).mono ?_
    rintro e w1 ⟨a, c, l, hl, rfl, hst⟩
    have HST := Lib.hid hst
    have HL := Lib.hid (HR.out.trans hl.symm)
    obtain ⟨ja, jc, hj1, hj2⟩ := hst.jn
    obtain ⟨hcj, hfj⟩ := heap_cellR hj1
    have hfit := hst.fit
    have hsl : s.data.toList.length = s.size := rfl
    rw [hsl] at hfit
    obtain ⟨N, hN⟩ : ∃ N, (textJ 0 0 l).length = N := ⟨_, rfl⟩
    rw [hN] at hcj hfit
    have HN := Lib.hid hN
    have e1 : IntKind.i64.wrap ((s.size : Int) - (N : Int)) = (s.size : Int) - (N : Int) := IntWalk.i64_in _ (by omega)
    clear hst hj1 hj2 hl hN hs2 hs
    go_wp2_with fail
    go_quiet (fail)
    go_wp2_with fail
    go_ret3
    exact ⟨a, c, l, HL.out.symm, by rw [HO.out, HN.out]; rfl, (HST.out.own.weak (Nat.le_succ _)).grown (below_drewN _ _), HST.out.bel.trans (below_drewN _ _)⟩

/-- what ExtendJournal answers -/
def extS (s : ByteArray) (r : Rc) : ByteArray × Int := if r.ok = true then (if overS s = true then (⟨#[]⟩, 3) else if (recS s).length = 300 then (⟨#[]⟩, 3) else (textB (recS s ++ [r]), 0)) else (⟨#[]⟩, 1)
def RetJx (w : World) (t : ByteArray × Int) (e : Ending) (w' : World) : Prop := e = .returned (.tuple #[.string t.1, .int .i64 t.2]) ∧ Below w.heap.size w w'
theorem retJx_eq {w w' : World} {t : ByteArray × Int} {b : ByteArray} {c : Int} (h : t = (b, c)) (hb : Below w.heap.size w w') : RetJx w t (.returned (.tuple #[.string b, .int .i64 c])) w' := by subst h; exact ⟨rfl, hb⟩

set_option maxRecDepth 100000 in
set_option maxHeartbeats 1000000 in
theorem extendJournal_any (s : ByteArray) (r : Rc) (w : World) (hs : s.size ≤ 1048576) (hE : Env w) :
    Calls Tryd.prog 19 #[.string s, .agg #[.int .i64 r.k, .int .i64 r.n]] w (RetJx w (extS s r)) := by
  have HE := Lib.hid hE
  have HB0 := Lib.hid (ba1 w (.cells #[.int .i64 r.k, .int .i64 r.n] 35 (0, 0)))
  have HBX := Lib.hid (push_at w (.cells #[.int .i64 r.k, .int .i64 r.n] 35 (0, 0)))
  clear hE
  rcases Bool.eq_false_or_eq_true (isRecB r.k r.n) with hok | hok
  · have HOK : Hid (r.ok = true) := Lib.hid hok
    by_cases hb : 20000 < s.size
    · have h1 : (20000 : Int) < (s.size : Int) := by omega
      have HX : Hid (extS s r = (⟨#[]⟩, 3)) := Lib.hid (by rw [extS, if_pos HOK.out, if_pos (by simpa [overS] using hb)])
      clear hb
      go_enter Tryd.func19, Tryd.ntmps19
      go_wp2_with fail
      refine (isRecord_val hok).mono ?_
      rintro e w1 ⟨rfl, hb1⟩
      have HB1 := Lib.hid (bt0 HB0.out hb1 (Nat.le_refl _))
      clear hb1
      go_wp2_with fail
      go_ret2
      exact retJx_eq HX.out HB1.out
    · have h1 : ¬ (20000 : Int) < (s.size : Int) := by omega
      have HO : Hid (overS s = false) := Lib.hid (by simpa [overS] using hb)
      have HR : Hid (recS s = recJ 300 0 0 s.data.toList) := Lib.hid (by rw [recS, if_neg hb])
      have hs2 : s.size ≤ 20000 := by omega
      clear hb
      go_enter Tryd.func19, Tryd.ntmps19
      go_wp2_with fail
      refine (isRecord_val hok).mono ?_
      rintro e w1 ⟨rfl, hb1⟩
      have HB1 := Lib.hid (bt0 HB0.out hb1 (Nat.le_refl _))
      have HX1 := Lib.hid (blkK hb1 HBX.out)
      have hwx := blkLt HX1.out
      clear hb1
      go_wp2_with fail
      refine (recovered_any s w1 hs2 (HE.out.next HB1.out)).mono ?_
      rintro e w2 ⟨a, c, l, hl, rfl, hst⟩
      have HST := Lib.hid hst
      have HL := Lib.hid (HR.out.trans hl.symm)
      have HB2 := Lib.hid (bt0 HB1.out hst.bel (Nat.le_refl _))
      have hc2 := (heap_cellR (blk hst.bel HX1.out hwx)).1
      have hw2 := blkLt (blk hst.bel HX1.out hwx)
      have hlen := hst.len
      clear hst hl
      by_cases h300 : l.length = 300
      · have h3 : ((l.length : Int) == 300) = true := by simp; omega
        have HX : Hid (extS s r = (⟨#[]⟩, 3)) := Lib.hid (by rw [extS, if_pos HOK.out, HO.out, if_neg (by decide), HL.out, if_pos h300])
        clear h300
        go_wp2_with fail
        go_ret2
        exact retJx_eq HX.out HB2.out
      · have h3 : ((l.length : Int) == 300) = false := by simp; omega
        have HX : Hid (extS s r = (textB (l ++ [r]), 0)) := Lib.hid (by rw [extS, if_pos HOK.out, HO.out, if_neg (by decide), HL.out, if_neg h300])
        go_wp2_with fail
        have hlr := lastJ_range l 0 (s := 0) (by omega)
        have hlx : (textJ 0 0 l).length ≤ 100000 := by have := HST.out.fit; have h9 : s.data.toList.length = s.size := rfl; omega
        refine (add_any w1.heap.size l.length (lastJ 0 0 l) (textJ 0 0 l) r _ HST.out.jn HOK.out (by omega) hlr hlx (HE.out.next HB2.out).tab).mono ?_
        rintro e w3 ⟨rfl, ⟨ja, jc, hj1, hj2⟩, hg3⟩
        have e3 : textJ 0 0 l ++ (lineJ l.length (lastJ 0 0 l) r ++ [10]) = textJ 0 0 (l ++ [r]) := by rw [textJ_snoc, Nat.zero_add]
        rw [e3] at hj1 hj2
        have hcv := conv_own hj2
        obtain ⟨hcj, hfj⟩ := heap_cellR hj1
        have HB3 := Lib.hid (HB2.out.trans ((below_of_grownBy hg3 (B := w1.heap.size) (by have := HST.out.bel.size; exact this) (fun k e => by cases e; exact Nat.le_refl _)).mono HB1.out.size))
        have HTB : Hid ((⟨(textJ 0 0 (l ++ [r])).toArray⟩ : ByteArray) = textB (l ++ [r])) := Lib.hid rfl
        rw [HTB.out] at hcv
        obtain ⟨N, hN⟩ : ∃ N, (textJ 0 0 (l ++ [r])).length = N := ⟨_, rfl⟩
        rw [hN] at hcj hcv
        clear hj1 hj2 hg3 hlx e3 hN
        go_wp2_with fail
        go_ret2
        exact retJx_eq HX.out HB3.out
  · have HX : Hid (extS s r = (⟨#[]⟩, 1)) := Lib.hid (by rw [extS, if_neg]; rw [show r.ok = false from hok]; decide)
    go_enter Tryd.func19, Tryd.ntmps19
    go_wp2_with fail
    refine (isRecord_val hok).mono ?_
    rintro e w1 ⟨rfl, hb1⟩
    have HB1 := Lib.hid (bt0 HB0.out hb1 (Nat.le_refl _))
    clear hb1
    go_wp2_with fail
    go_ret2
    exact retJx_eq HX.out HB1.out

/-- what JournalSum answers -/
def sumS (s : ByteArray) : Int × Int := if overS s = true then (0, 3) else (lastJ 0 0 (recS s), 0)
set_option maxRecDepth 100000 in
set_option maxHeartbeats 1000000 in
theorem journalSum_any (s : ByteArray) (w : World) (hs : s.size ≤ 1048576) (hE : Env w) :
    Calls Tryd.prog 17 #[.string s] w fun e w' => e = .returned (.tuple #[.int .i64 (sumS s).1, .int .i64 (sumS s).2]) ∧ Below w.heap.size w w' := by
  have HE := Lib.hid hE
  clear hE
  by_cases hb : 20000 < s.size
  · have h1 : (20000 : Int) < (s.size : Int) := by omega
    have HO : Hid (sumS s = (0, 3)) := Lib.hid (by rw [sumS, if_pos (by simpa [overS] using hb)])
    clear hb
    go_enter Tryd.func17, Tryd.ntmps17
    go_wp2_with fail
    go_ret2
    exact ⟨by rw [HO.out]; rfl, Below.refl _ _⟩
  · have h1 : ¬ (20000 : Int) < (s.size : Int) := by omega
    have HO : Hid (sumS s = (lastJ 0 0 (recS s), 0)) := Lib.hid (by rw [sumS, if_neg (by simpa [overS] using hb)])
    have HR : Hid (recS s = recJ 300 0 0 s.data.toList) := Lib.hid (by rw [recS, if_neg hb])
    have hs2 : s.size ≤ 20000 := by omega
    clear hb
    go_enter Tryd.func17, Tryd.ntmps17
    go_wp2_with fail
    refine (recovered_any s w hs2 HE.out).mono ?_
    rintro e w1 ⟨a, c, l, hl, rfl, hst⟩
    have HB1 := Lib.hid hst.bel
    have HL := Lib.hid (HR.out.trans hl.symm)
    obtain ⟨ja, jc, hj1, hj2⟩ := hst.jn
    obtain ⟨hcj, hfj⟩ := heap_cellR hj1
    clear hst hj1 hj2 hl
    go_wp2_with fail
    go_ret2
    exact ⟨by rw [HO.out, HL.out]; rfl, HB1.out⟩

end Go.Proofs.YtkmfgchbfchdbaaDoor
