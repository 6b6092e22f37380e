import Derived.Test.YtlcglclojlffgaaGreatM1
import Derived.BigQuiet
import Derived.Test.YtlcglclojlffgaaGreatM0
import Derived.Maps.AppendAt
import Derived.Maps.OwnOps
import Derived.Maps.Views
import Derived.DeepKeys4
import Derived.Laws.EntriesVeiled
import Derived.WalkMore
import Derived.Deep.DeepCutAuto
import Derived.Deep.CutBlock
namespace Go.Proofs.YtlcglclojlffgaaGreat
open Go.RowKit

/-- a message's polynomial, its first k elements laid -/
def pTo (len : Nat) (m : List Nat) (k : Nat) : List Nat := List.replicate (len - k) 0 ++ (m.take k).reverse
theorem pTo_len {len : Nat} {m : List Nat} {k : Nat} (hk : k ≤ m.length) (hl : m.length ≤ len) : (pTo len m k).length = len := by
  rw [pTo, List.length_append, List.length_replicate, List.length_reverse, List.length_take]; omega
theorem pTo_step {len : Nat} {m : List Nat} {k : Nat} (hk : k < m.length) (hl : m.length ≤ len) : (pTo len m k).set (len - 1 - k) (co m k) = pTo len m (k + 1) := by
  obtain ⟨n, hn⟩ : ∃ n, len - k = n + 1 := ⟨len - k - 1, by omega⟩
  have h1 : m[k]? = some (co m k) := by rw [List.getElem?_eq_getElem hk, co, List.getD_eq_getElem?_getD, List.getElem?_eq_getElem hk]; rfl
  rw [pTo, pTo, hn, show len - (k + 1) = n by omega, show len - 1 - k = n by omega, List.replicate_succ', List.append_assoc, List.set_append_right _ _ (by rw [List.length_replicate]; omega), List.length_replicate, Nat.sub_self, take_snoc' h1, List.reverse_append]
  rfl
theorem pTo_all {F : Fd} (h3 : 3 ≤ F.q) {len : Nat} {m : List Nat} (h : AllE F m) (k : Nat) : AllE F (pTo len m k) := fun x hx => by
  rcases List.mem_append.1 hx with h1 | h1
  · rw [List.eq_of_mem_replicate h1]; omega
  · exact h x (List.mem_of_mem_take (List.mem_reverse.1 h1))
theorem encW_eq (F : Fd) (len n : Nat) (m : List Nat) : encW F len n m = m ++ chkTo F (pRem F (trimN (pTo len m m.length)) (genP F n) 1) n n := by
  rw [encW, pTo, List.take_length]
theorem natI_app (x y : List Nat) : natI (x ++ y) = natI x ++ natI y := by simp [natI]
theorem quiet_same' {P : Program} {f : FuncId} {args : Array Value} {w : World} {n : Nat} {v : Value} (h : Calls P f args (w.drewN n) fun e w' => e = .returned v ∧ w.drewN n = w') : Calls P f args (w.drewN n) fun e w'' => e = .returned v ∧ ∃ m, w'' = w.drewN m :=
  Calls.quiet_of_same (h.mono fun _ _ ⟨h1, h2⟩ => ⟨h1, h2.symm⟩)
theorem make_cap (n : Nat) (hn : n ≤ 1099511627776) (w : World) :
    (Instr.makeSlice 24 (.int .i64 0) (.int .i64 (n : Int))).run Tryz.prog w = .ok (.slice (some ⟨w.heap.size, 0, none⟩) 0 n) (w.alloc (.cells (madeCells #[.int .i64 0] n) 2)) := by
  obtain ⟨i0, hi, hz0, hz1, hz2⟩ := info_parts infoI
  have := run_make (P := Tryz.prog) w 24 2 i0 (.int .i64 0) Tryz.underlying24 hi hz0 .i64 .i64 0 n (by omega) (by omega) (by rw [hz2]; omega) (by omega)
  rw [hz1] at this
  simpa [Value.cells] using this
theorem ownI_cap (w : World) (n : Nat) (hn : n ≤ 1099511627776) : OwnI (w.alloc (.cells (madeCells #[.int .i64 0] n) 2)) w.heap.size (.slice (some ⟨w.heap.size, 0, none⟩) 0 n) [] := by
  have h := (ownI_made' w n hn).cut 0 (Nat.zero_le _)
  simpa using h
/-- a list of elements of the call's own is handed back -/
def RetNl (w : World) (p : List Nat) (e : Ending) (w' : World) : Prop := ∃ a c, e = .returned (.slice a p.length c) ∧ OwnI w' w.heap.size (.slice a p.length c) (natI p) ∧ Below w.heap.size w w'

set_option maxRecDepth 100000 in
set_option maxHeartbeats 4000000 in
theorem encode_any (F : Fd) (hF : FdOk F) (d b : Nat) (len chk : Nat) (a : Option Addr) (m : List Nat) (n c : Nat) (w : World) (hn : n = m.length) (h1 : len = m.length + chk) (hc : 1 ≤ chk) (hc2 : chk ≤ 64) (hl : len ≤ 255) (hm : 1 ≤ m.length) (hM : AllE F m) (hx : IntsAt w a (natI m)) (hA : CoderAt w d b F len chk) :
    Calls Tryz.prog 45 #[.pointer (some ⟨d, 0, none⟩), .slice a n c] w (RetNl w (encW F len chk m)) := by
  subst hn
  have HA := Lib.hid hA
  have HX := Lib.hid hx
  have HM := Lib.hid hM
  have HL := Lib.hid h1
  have hml : m.length < len := by omega
  have hq := hF.q_bd
  obtain ⟨hc0, hc1, hc2'⟩ := hA.cell
  have hmk := make_poly len (by omega)
  have HO := Lib.hid (ownI_made' w len (by omega))
  clear hA hx hM h1
  go_enter Tryz.func45, Tryz.ntmps45
  go_wp2_with fail
  clear hmk hc0 hc1 hc2'
  go_loopw [6, 7, 20] (fun _ _ i wr => ∃ k : Nat, k ≤ m.length ∧ i = .int .i64 k ∧ OwnI wr w.heap.size (.slice (some ⟨w.heap.size, 0, none⟩) len len) (natI (pTo len m k)) ∧ Below w.heap.size w wr) (fun _ _ i _ => m.length - (intOf i).toNat)
  case atStart => exact ⟨0, Nat.zero_le _, rfl, by simpa [pTo, natI_rep] using HO.out, ba1 _ _⟩
  case round =>
    obtain ⟨k, hk, rfl, ho, hb⟩ := hrel
    have HO1 := Lib.hid ho
    have HB1 := Lib.hid hb
    have HAr := Lib.hid (HA.out.below hb)
    obtain ⟨hc0, hc1, hc2'⟩ := HAr.out.cell
    clear ho hb
    by_cases hlt : k < m.length
    · obtain ⟨b1, o1, rfl, hb1, hx1⟩ := co_at (HX.out.below HB1.out) hlt
      have hpl : (natI (pTo len m k)).length = len := by rw [natI_len, pTo_len hk (by omega)]
      obtain ⟨z, hz, hcz, hfz⟩ := HO1.out.cellAt (k := len - 1 - k) hpl.symm (by omega)
      have HPS := Lib.hid (pTo_step hlt (Nat.le_of_lt hml))
      have hki : (k : Int) < (m.length : Int) := by omega
      have hix : (len : Int) - 1 - (k : Int) = ((len - 1 - k : Nat) : Int) := by omega
      have hix2 : ((len - 1 - k : Nat) : Int) < (len : Int) := by omega
      have HPL := Lib.hid hpl
      clear hz hpl
      go_wp2_with fail
      refine ⟨⟨k + 1, by omega, by go_num, ?_, HB1.out.setCell (Nat.le_refl _) _⟩, by simp [intOf]; omega⟩
      have h := (HO1.out.stored HPL.out.symm (len - 1 - k) ((co m k : Nat) : Int)).1
      rw [← natI_set, HPS.out] at h
      exact h
    · obtain rfl : k = m.length := by omega
      have hki : ¬ ((m.length : Nat) : Int) < (m.length : Int) := by omega
      obtain ⟨P, hP⟩ : ∃ P, P = pTo len m m.length := ⟨_, rfl⟩
      have HPe := Lib.hid hP
      have HPA := Lib.hid (show AllE F P by rw [hP]; exact pTo_all hF.fit.q3 HM.out _)
      have HPl := Lib.hid (show P.length = len by rw [hP, pTo_len (Nat.le_refl _) (by omega)])
      rw [← hP] at HO1
      have HTI := Lib.hid (show IntsAt wr (some ⟨w.heap.size, 0, none⟩) (natI (trimN P)) by
        have h := HO1.out.ints.take (trimN P).length
        rwa [← natI_take, show P.take (trimN P).length = trimN P by rw [trimN_len, trimN]] at h)
      have HTA := Lib.hid (show AllE F (trimN P) from HPA.out.take _)
      have HTL := Lib.hid (show (trimN P).length ≤ 1000 by have := trimN_le P; have := HPl.out; omega)
      have HG := Lib.hid (genP_top hF.runs hF.fit chk)
      have HGA := Lib.hid (genP_all hF.runs hF.fit chk)
      have HGL := Lib.hid (show (genP F chk).length ≤ 1000 ∧ 1 ≤ (genP F chk).length ∧ F.IsInv (co (genP F chk) ((genP F chk).length - 1)) 1 ∧ co (genP F chk) ((genP F chk).length - 1) ≠ 0 by
        rw [HG.out.1, Nat.add_sub_cancel, HG.out.2]
        exact ⟨by omega, by omega, F.isInv_one hF.fit, by omega⟩)
      have hd : d < wr.heap.size := blkLt HAr.out.1
      clear hP
      go_wp2_with fail
      go_region_held3 (fun w' => w'.cell? ⟨d, 0, none⟩ = some (.pointer (some ⟨b, 0, none⟩))) (first | assumption | exact (World.cell?_alloc_lt _ _ _ (by exact ‹d < _›)).trans ‹_›)
        ((first
          | (go_at_call 80; go_must (refine (trim_any (some ⟨w.heap.size, 0, none⟩) P len len _ HPl.out.symm HO1.out.drew.ints (Nat.le_of_eq HPl.out) (Nat.le_trans (Nat.le_of_eq HPl.out) (Nat.le_trans hl (by decide))) rfl).mono ?_; rintro e w2 ⟨rfl, rfl⟩))
          | (go_at_call 82; go_must (refine (generator_any F hF d b len chk _ hc2 (HAr.out.below ((Below.refl _ _).drew))).mono ?_; rintro e w3 ⟨a3, c3, rfl, hl3, ho3, hb3⟩; have HO3 := Lib.hid ho3; have HB3 := Lib.hid (undrew hb3); have hS3 := (HAr.out.below HB3.out).cell.1; clear ho3 hb3))
          | (go_at_call 81; go_must (refine (over_poly F hF b 1 w.heap.size 0 a3 (trimN P) (genP F chk) _ _ _ _ _ rfl rfl (HAr.out.below HB3.out).2 (HTI.out.below HB3.out) HO3.out.ints HTA.out HGA.out HTL.out HGL.out.1 HGL.out.2.1 HGL.out.2.2.1 HGL.out.2.2.2).mono ?_; rintro e w4 ⟨a4, c4, a5, c5, rfl, ho4, ho5, hb4⟩; have HO5 := Lib.hid ho5; have HB4 := Lib.hid hb4; have hS4 := ((HAr.out.below HB3.out).below HB4.out).cell.1; clear ho4 ho5 hb4))))
      obtain ⟨R, hR⟩ : ∃ R, R = pRem F (trimN P) (genP F chk) 1 := ⟨_, rfl⟩
      rw [← hR] at HO5 ⊢
      have HRe := Lib.hid hR
      have HRA := Lib.hid (show AllE F R by rw [hR]; exact pRem_all hF.runs hF.fit HTA.out HGA.out (by have := hF.fit.q3; omega))
      have HB5 := Lib.hid (bt0 (HB1.out.trans (HB3.out.mono HB1.out.size)) HB4.out (Nat.le_refl _))
      have HAx := Lib.hid ((HAr.out.below HB3.out).below HB4.out)
      have HO6 := Lib.hid (HO5.out.weak (show w.heap.size ≤ w3.heap.size by have := HB1.out.size; have := HB3.out.size; omega))
      have HX5 := Lib.hid ((HX.out.below HB1.out).below (HB3.out.trans (HB4.out.mono HB3.out.size)))
      clear hR
      obtain ⟨b1, o1, rfl, hb1, -⟩ := co_at HX5.out (k := 0) (by omega)
      have hd4 : d < w4.heap.size := blkLt HAx.out.1
      obtain ⟨hd0, hd1, hd2⟩ := HAx.out.cell
      have hmk2 := make_cap len (by omega)
      have HC := Lib.hid (ownI_cap w4 len (by omega))
      have HX6 := Lib.hid (HX5.out.below (ba1 w4 (.cells (madeCells #[.int .i64 0] len) 2 (0, 0))))
      have HB6 := Lib.hid (bt0 HB5.out (ba1 w4 (.cells (madeCells #[.int .i64 0] len) 2 (0, 0))) (Nat.le_refl _))
      have HAy := Lib.hid (HAx.out.below (ba1 w4 (.cells (madeCells #[.int .i64 0] len) 2 (0, 0))))
      have HO7 := Lib.hid (HO6.out.grown (ba1 w4 (.cells (madeCells #[.int .i64 0] len) 2 (0, 0))))
      have hw4 : w.heap.size ≤ w4.heap.size := HB5.out.size
      go_wp2_with (at_builtin; refine wpList_append_is (o := _) rfl (.tmp 52) (.tmp 53) 24 Tryz.underlying24 rfl w4.heap.size (.slice (some ⟨w4.heap.size, 0, none⟩) 0 len) [] (natI m) rfl HC.out b1 o1 m.length c (natI_len m).symm rfl HX6.out ?c1 ?c2 ?h9)
      case c1 => rw [natI_len]; simp; omega
      case c2 => simp
      case h9 =>
      intro a6 c6 l6 w6 he6 ho6 hg6 hb6
      have HB7 := Lib.hid ((ba1 w4 (.cells (madeCells #[.int .i64 0] len) 2 (0, 0))).trans hb6)
      have HO8 := Lib.hid ho6
      have HE6 := Lib.hid he6
      have HI5 := Lib.hid HO6.out.ints
      have HRL := Lib.hid (show R.length ≤ 255 by
        have h1 : R.length ≤ (trimN P).length := by rw [HRe.out]; exact pRem_le
        have h2 := trimN_le P
        have h3 := HPl.out
        omega)
      have hd7 : d < w6.heap.size := by have := HB7.out.size; omega
      obtain ⟨hd0', hd1', hd2'⟩ := (HAx.out.below HB7.out).cell
      clear hg6 hb6 ho6 he6 hmk2 hS3 hS4 hd0 hd1 hd2
      clear HO1 HO5 HO7 HC
      go_wp2_with fail
      go_loopw [10, 11, 12] (fun v i _ wr => ∃ (k : Nat) (a' : Option Addr) (c' : Nat) (l : List Int), k ≤ chk ∧ i = .int .i64 ((k : Int) - 1) ∧ l = natI (m ++ chkTo F R chk (chk - k)) ∧ v = .slice a' l.length c' ∧ OwnI wr w4.heap.size (.slice a' l.length c') l ∧ Below w4.heap.size w4 wr) (fun _ i _ _ => ((intOf i) + 1).toNat)
      case atStart => exact ⟨chk, a6, c6, l6, Nat.le_refl _, rfl, by rw [HE6.out, Nat.sub_self, chkTo, List.append_nil], rfl, HO8.out, HB7.out⟩
      case round =>
        obtain ⟨k, a7, c7, l, hk, rfl, hl7, rfl, ho, hb⟩ := hrel
        have HO9 := Lib.hid ho
        have HB9 := Lib.hid hb
        have HL7 := Lib.hid hl7
        have hll : l.length ≤ 400 := by
          rw [hl7, natI_len, List.length_append, chkTo_len]; omega
        have hw9 : w4.heap.size ≤ wr.heap.size := hb.size
        clear hl7 ho hb
        rcases k with - | k
        · have e1 : (((0 : Nat) : Int) - 1) = -1 := by omega
          rw [e1]
          clear e1
          have HFin := Lib.hid (show l = natI (encW F len chk m) by rw [HL7.out, Nat.sub_zero, encW_eq, HRe.out, HPe.out])
          go_wp2_with fail
          go_ret
          have h := HO9.out.weak hw4
          rw [HFin.out, natI_len] at h
          exact ⟨a7, c7, by rw [HFin.out, natI_len]; rfl, h, HB5.out.trans (HB9.out.mono hw4)⟩
        · have e1 : (((k + 1 : Nat) : Int) - 1) = (k : Int) := by omega
          rw [e1]
          clear e1
          have HS := Lib.hid (show chkTo F R chk (chk - k) = chkTo F R chk (chk - (k + 1)) ++ [F.neg (co R k)] by
            rw [show chk - k = (chk - (k + 1)) + 1 by omega, chkTo, show chk - 1 - (chk - (k + 1)) = k by omega])
          obtain ⟨he0, he1, he2⟩ := (HAx.out.below HB9.out).cell
          have hd9 : d < wr.heap.size := by omega
          by_cases hkr : k < R.length
          · obtain ⟨b2, o2, rfl, hb2, hx2⟩ := co_at (HI5.out.below HB9.out) hkr
            have hkri : (k : Int) < (R.length : Int) := by omega
            have HAz := Lib.hid (HAx.out.below HB9.out).2
            go_wp2_with fail
            go_quiet ((go_at_call 83; exact quiet_same' (neg_any F hF b (co R k) _ (HAz.out.below (below_drewN (Below.refl _ _) _)))))
            have HOd := Lib.hid (HO9.out.grown (below_drewN (Below.refl _ wr) nq))
            have HBd := Lib.hid (HB9.out.trans (below_drewN (Below.refl _ wr) nq))
            clear hx2 he0 he1 he2
            go_wp2_with (at_builtin; refine wpList_append_i1 (o := _) rfl (.tmp 77) (.tmp 79) 24 Tryz.underlying24 rfl w4.heap.size (.slice a7 l.length c7) l ((F.neg (co R k) : Nat) : Int) rfl (HOd.out.grown (ba1 _ _)) wr.heap.size rfl (push_at _ _) ?c3 ?c4 ?h8)
            case c3 => omega
            case c4 => simp; omega
            case h8 =>
            intro a8 c8 l8 w8 he8 ho8 _ hb8
            have HE8 := Lib.hid he8
            have HO10 := Lib.hid ho8
            have HB10 := Lib.hid ((bt0 HBd.out (ba1 _ _) (Nat.le_refl _)).trans hb8)
            clear he8 ho8 hb8
            go_wp2_with fail
            refine ⟨⟨k, a8, c8, l8, by omega, rfl, ?_, rfl, HO10.out, HB10.out⟩, by simp [intOf]⟩
            rw [HE8.out, HL7.out, HS.out]; simp [natI]
          · have hkri : ¬ (k : Int) < (R.length : Int) := by omega
            have HZ := Lib.hid (show F.neg (co R k) = 0 by
              have : co R k = 0 := by rw [co, List.getD_eq_getElem?_getD, List.getElem?_eq_none (by omega)]; rfl
              rw [this, F.neg_zero])
            clear he0 he1 he2
            go_wp2_with (at_builtin; refine wpList_append_i1 (o := _) rfl (.tmp 77) (.tmp 79) 24 Tryz.underlying24 rfl w4.heap.size (.slice a7 l.length c7) l 0 rfl (HO9.out.grown (ba1 _ _)) wr.heap.size rfl (push_at _ _) ?c3 ?c4 ?h8)
            case c3 => omega
            case c4 => omega
            case h8 =>
            intro a8 c8 l8 w8 he8 ho8 _ hb8
            have HE8 := Lib.hid he8
            have HO10 := Lib.hid ho8
            have HB10 := Lib.hid ((bt0 HB9.out (ba1 _ _) (Nat.le_refl _)).trans hb8)
            clear he8 ho8 hb8
            go_wp2_with fail
            refine ⟨⟨k, a8, c8, l8, by omega, rfl, ?_, rfl, HO10.out, HB10.out⟩, by simp [intOf]⟩
            rw [HE8.out, HL7.out, HS.out, HZ.out]; simp [natI]

end Go.Proofs.YtlcglclojlffgaaGreat
namespace Go.Proofs.YtlcglclojlffgaaGreat
open Go.RowKit

set_option maxRecDepth 100000 in
set_option maxHeartbeats 1000000 in
theorem spName_any (s : ByteArray) (w : World) (hs : s.size ≤ 1048576) :
    Calls Tryz.prog 85 #[.string s] w fun e w' => e = .returned (.bool (nameB s.data.toList)) ∧ w = w' := by
  have hl : s.data.toList.length = s.size := rfl
  have HL := Lib.hid hl
  clear hl
  go_enter Tryz.func85, Tryz.ntmps85
  go_wp2_with fail
  go_loop [3] (fun i => ∃ k : Nat, k ≤ s.size ∧ i = .int .i64 k ∧ ∀ i (hi : i < s.size), i < k → 97 ≤ s[i].toNat ∧ s[i].toNat ≤ 122) (fun i => s.size - (intOf i).toNat)
  case atStart => exact ⟨0, Nat.zero_le _, rfl, fun i _ h => by omega⟩
  case round =>
    obtain ⟨k, hk, rfl, hall⟩ := hrel
    have HA := Lib.hid hall
    clear hall
    by_cases hlt : k < s.size
    · have hki : (k : Int) < (s.size : Int) := by omega
      by_cases h1 : s[k].toNat < 97
      · have HR := Lib.hid (name_no (h := hlt) (Or.inl h1))
        have hd : decide (((s[k].toNat : Nat) : Int) < 97) = true := by simp; omega
        go_wp2_with fail
        go_ret
        exact ⟨ret_bool HR.out.symm, rfl⟩
      · have hd : decide (((s[k].toNat : Nat) : Int) < 97) = false := by simp; omega
        by_cases h2 : 122 < s[k].toNat
        · have HR := Lib.hid (name_no (h := hlt) (Or.inr h2))
          have hd2 : decide ((122 : Int) < ((s[k].toNat : Nat) : Int)) = true := by simp; omega
          clear h1 h2
          go_wp2_with fail
          go_ret
          exact ⟨ret_bool HR.out.symm, rfl⟩
        · have hd2 : decide ((122 : Int) < ((s[k].toNat : Nat) : Int)) = false := by simp; omega
          have HK : Hid (97 ≤ s[k].toNat ∧ s[k].toNat ≤ 122) := Lib.hid (by omega)
          clear h1 h2
          go_wp2_with fail
          refine ⟨⟨k + 1, by omega, by go_num, fun i hi hik => ?_⟩, by simp [intOf]; omega⟩
          by_cases e : i = k
          · subst e; exact HK.out
          · exact HA.out i hi (by omega)
    · have hki : ¬ (k : Int) < (s.size : Int) := by omega
      have HR := Lib.hid (name_yes (s := s) (fun i hi => HA.out i hi (by omega)))
      by_cases h1 : 1 ≤ s.size
      · have h1' : (1 : Int) ≤ (s.size : Int) := by omega
        by_cases h8 : s.size ≤ 8
        · have h8' : (s.size : Int) ≤ 8 := by omega
          have HE := Lib.hid (HR.out.trans (decide_eq_true ⟨h1', h8'⟩))
          go_wp2_with fail
          go_ret
          exact ⟨ret_bool HE.out.symm, rfl⟩
        · have h8' : ¬ (s.size : Int) ≤ 8 := by omega
          have HE := Lib.hid (HR.out.trans (decide_eq_false (fun h => h8' h.2)))
          go_wp2_with fail
          go_ret
          exact ⟨ret_bool HE.out.symm, rfl⟩
      · have h1' : ¬ (1 : Int) ≤ (s.size : Int) := by omega
        have HE := Lib.hid (HR.out.trans (decide_eq_false (fun h => h1' h.1)))
        go_wp2_with fail
        go_ret
        exact ⟨ret_bool HE.out.symm, rfl⟩
theorem spIn_val {n lo hi : Int} {b : Bool} {w : World} (h : inB n lo hi = b) :
    Calls Tryz.prog 23 #[.int .i64 n, .int .i64 lo, .int .i64 hi] w fun e w' => e = .returned (.bool b) ∧ w = w' := h ▸ spIn_any n lo hi w
/-- a list that rises, not empty and not too long -/
def risS (most : Nat) (lo hi : Int) (xs : List Int) : Bool := decide (1 ≤ xs.length) && decide (xs.length ≤ most) && risB lo hi xs
set_option maxRecDepth 100000 in
set_option maxHeartbeats 2000000 in
theorem spRises_any (most : Nat) (hm : most ≤ 8) (lo hi : Int) (a : Option Addr) (xs : List Int) (c : Nat) (w : World) (hx : IntsAt w a xs) (lx : xs.length ≤ 1099511627776) :
    Calls Tryz.prog 86 #[.slice a xs.length c, .int .i64 (most : Int), .int .i64 lo, .int .i64 hi] w fun e w' => e = .returned (.bool (risS most lo hi xs)) ∧ ∃ n, w' = w.drewN n := by
  have HX := Lib.hid hx
  clear hx
  obtain ⟨R, hR⟩ : ∃ R, R = risS most lo hi xs := ⟨_, rfl⟩
  have HR := Lib.hid hR
  rw [← hR]
  clear hR
  by_cases h1 : 1 ≤ xs.length
  · have h1' : ¬ ((xs.length : Nat) : Int) < 1 := by omega
    by_cases h2 : xs.length ≤ most
    · have h2' : ¬ (most : Int) < (xs.length : Int) := by omega
      have HR2 := Lib.hid (show R = risB lo hi xs by rw [HR.out, risS, decide_eq_true h1, decide_eq_true h2]; rfl)
      clear HR
      go_enter Tryz.func86, Tryz.ntmps86
      go_wp2_with fail
      go_loopw [9] (fun i wr => ∃ k n : Nat, k ≤ xs.length ∧ i = .int .i64 k ∧ (∀ i, i < k → (lo ≤ xs.getD i 0 ∧ xs.getD i 0 ≤ hi) ∧ (0 < i → xs.getD (i - 1) 0 < xs.getD i 0)) ∧ wr = w.drewN n) (fun i _ => xs.length - (intOf i).toNat)
      case atStart => exact ⟨0, 0, Nat.zero_le _, rfl, fun i h => by omega, rfl⟩
      case round =>
        obtain ⟨k, n, hk, rfl, hall, hwr⟩ := hrel
        have HA := Lib.hid hall
        have HWR := Lib.hid hwr
        have HXr := Lib.hid (show IntsAt wr a xs by rw [hwr]; exact HX.out.below (below_drewN (Below.refl _ _) _))
        clear hall hwr
        by_cases hlt : k < xs.length
        · obtain ⟨b1, o1, x, rfl, hxk, hb1, hc1⟩ := HXr.out.at hlt
          have hki : (k : Int) < (xs.length : Int) := by omega
          have HG := Lib.hid (getD_of hxk)
          clear hxk
          rcases Bool.eq_false_or_eq_true (inB x lo hi) with hin | hin
          · have hin' := inB_iff.1 hin
            have HIN := Lib.hid (fun w => spIn_val (w := w) hin)
            by_cases hk0 : k = 0
            · have hk0' : decide (0 < k) = false := by simp; omega
              have HK : Hid (∀ i, i < k + 1 → (lo ≤ xs.getD i 0 ∧ xs.getD i 0 ≤ hi) ∧ (0 < i → xs.getD (i - 1) 0 < xs.getD i 0)) := Lib.hid (fun i hi => by
                obtain rfl : i = k := by omega
                rw [HG.out]
                exact ⟨hin', fun h => by omega⟩)
              clear hk0 hin
              go_wp2_with fail
              go_quiet ((go_at_call 23; go_must (exact quiet_same' (HIN.out _))))
              go_wp2_with fail
              exact ⟨⟨k + 1, _, by omega, by go_num, HK.out, by rw [HWR.out, World.drewN_drewN]⟩, by simp [intOf]; omega⟩
            · obtain ⟨k, rfl⟩ : ∃ k', k = k' + 1 := ⟨k - 1, by omega⟩
              obtain ⟨b2, o2, y, e2, hyk, hb2, hc2⟩ := HXr.out.at (k := k) (by omega)
              simp only [Option.some.injEq, Addr.mk.injEq, and_true] at e2
              obtain ⟨rfl, rfl⟩ := e2
              have HY := Lib.hid (getD_of hyk)
              have hk0' : decide (0 < k + 1) = true := by simp
              have hk1' : ((k + 1 : Nat) : Int) - 1 = (k : Int) := by omega
              clear hyk hk0 hin
              by_cases hxy : x ≤ y
              · have hd : decide (x ≤ y) = true := decide_eq_true hxy
                have HE := Lib.hid (HR2.out.trans (ris_no (lo := lo) (hi := hi) hlt (Or.inr ⟨by omega, by rw [HG.out, Nat.add_sub_cancel, HY.out]; exact hxy⟩)))
                clear hxy
                go_wp2_with fail
                go_quiet ((go_at_call 23; go_must (exact quiet_same' (HIN.out _))))
                go_wp2_with fail
                go_ret
                exact ⟨ret_bool HE.out.symm, _, by rw [HWR.out, World.drewN_drewN]⟩
              · have hd : decide (x ≤ y) = false := decide_eq_false hxy
                have HK : Hid (∀ i, i < k + 1 + 1 → (lo ≤ xs.getD i 0 ∧ xs.getD i 0 ≤ hi) ∧ (0 < i → xs.getD (i - 1) 0 < xs.getD i 0)) := Lib.hid (fun i hi => by
                  by_cases e : i = k + 1
                  · subst e
                    rw [HG.out, Nat.add_sub_cancel, HY.out]
                    exact ⟨hin', fun _ => by omega⟩
                  · exact HA.out i (by omega))
                clear hxy
                go_wp2_with fail
                go_quiet ((go_at_call 23; go_must (exact quiet_same' (HIN.out _))))
                go_wp2_with fail
                exact ⟨⟨k + 1 + 1, _, by omega, by go_num, HK.out, by rw [HWR.out, World.drewN_drewN]⟩, by simp [intOf]; omega⟩
          · have HIN := Lib.hid (fun w => spIn_val (w := w) hin)
            have HE := Lib.hid (HR2.out.trans (ris_no (lo := lo) (hi := hi) hlt (Or.inl (by
              rw [HG.out]
              have h1 : ¬ (lo ≤ x ∧ x ≤ hi) := of_decide_eq_false hin
              omega))))
            clear hin
            go_wp2_with fail
            go_quiet ((go_at_call 23; go_must (exact quiet_same' (HIN.out _))))
            go_wp2_with fail
            go_ret
            exact ⟨ret_bool HE.out.symm, _, by rw [HWR.out, World.drewN_drewN]⟩
        · have hki : ¬ (k : Int) < (xs.length : Int) := by omega
          have HE := Lib.hid (HR2.out.trans (decide_eq_true (fun i hi => HA.out i (by omega))))
          go_wp2_with fail
          go_ret
          exact ⟨ret_bool HE.out.symm, _, HWR.out⟩
    · have h2' : (most : Int) < (xs.length : Int) := by omega
      have HE := Lib.hid (show R = false by rw [HR.out, risS, decide_eq_false h2]; simp)
      go_enter Tryz.func86, Tryz.ntmps86
      go_wp2_with fail
      go_ret
      exact ⟨ret_bool HE.out.symm, 0, rfl⟩
  · have h1' : ((xs.length : Nat) : Int) < 1 := by omega
    have HE := Lib.hid (show R = false by rw [HR.out, risS, decide_eq_false h1]; rfl)
    go_enter Tryz.func86, Tryz.ntmps86
    go_wp2_with fail
    go_ret
    exact ⟨ret_bool HE.out.symm, 0, rfl⟩

end Go.Proofs.YtlcglclojlffgaaGreat
namespace Go.Proofs.YtlcglclojlffgaaGreat
open Go.RowKit

/-! Lists of places with whole-number rows and columns. -/
/-- a place's cells -/
def plZ (p : Int × Int) : List Value := [.int .i64 p.1, .int .i64 p.2]
/-- the slice v is the call's own and holds the places ps -/
def OwnZ (w : World) (base : Nat) (v : Value) (ps : List (Int × Int)) : Prop := w.ownsRow base 168 2 v ps.length (ps.flatMap plZ)
/-- places at an address -/
def PlZAt (w : World) (a : Option Addr) (ps : List (Int × Int)) : Prop := ∀ i (h : i < ps.length), ∃ b o, a = some ⟨b, o, none⟩ ∧ w.cell? ⟨b, o + i * 2, none⟩ = some (.int .i64 (ps[i]).1) ∧ w.cell? ⟨b, o + i * 2 + 1, none⟩ = some (.int .i64 (ps[i]).2)
theorem PlZAt.below {w w' : World} {a : Option Addr} {ps : List (Int × Int)} (H : PlZAt w a ps) (hb : Below w.heap.size w w') : PlZAt w' a ps := fun i h => by
  obtain ⟨b, o, ha, h0, h1⟩ := H i h
  have hl := lt_of_cell h0
  exact ⟨b, o, ha, ((bcell hb).1 b _ hl).trans h0, ((bcell hb).1 b _ hl).trans h1⟩
theorem zflat_at : ∀ (ps : List (Int × Int)) (i : Nat) (p : Int × Int), ps[i]? = some p → ∀ j, j < 2 → (ps.flatMap plZ)[i * 2 + j]? = (plZ p)[j]?
  | [], i, d, h, _, _ => by simp at h
  | e :: ds, 0, d, h, j, hj => by
    simp at h
    subst h
    rw [List.flatMap_cons, Nat.zero_mul, Nat.zero_add, List.getElem?_append_left (by simpa [plZ] using hj)]
  | e :: ds, i + 1, d, h, j, hj => by
    have ih := zflat_at ds i d (by simpa using h) j hj
    rw [List.flatMap_cons, List.getElem?_append_right (by simp [plZ]; omega), ← ih]
    congr 1
    simp [plZ]; omega
theorem zflat_len : ∀ ps : List (Int × Int), (ps.flatMap plZ).length = ps.length * 2
  | [] => rfl
  | e :: ds => by rw [List.flatMap_cons, List.length_append, zflat_len ds]; simp [plZ]; omega
theorem zflat_one {ps : List (Int × Int)} : ∀ u ∈ ps.flatMap plZ, u.oneCell' = true := by
  intro u hu
  obtain ⟨p, _, hp⟩ := List.mem_flatMap.1 hu
  simp only [plZ, List.mem_cons, List.not_mem_nil, or_false] at hp
  rcases hp with rfl | rfl <;> rfl
theorem OwnZ.pls {w : World} {base : Nat} {a : Option Addr} {n c : Nat} {ps : List (Int × Int)} (h : OwnZ w base (.slice a n c) ps) : PlZAt w a ps := by
  intro i hi
  have hd := List.getElem?_eq_getElem hi
  rcases h.2 with ⟨h1, h0⟩ | ⟨g, cap, cur, h1, hb, hg, q1, q2, q3, q4⟩
  · omega
  · simp only [Value.slice.injEq] at h1
    obtain ⟨rfl, rfl, rfl⟩ := h1
    have hc : ∀ j, j < 2 → w.cell? ⟨g, i * 2 + j, none⟩ = (plZ ps[i])[j]? := fun j hj => by
      have h2 := World.ownsRow.cellAt h (i * 2 + j) (by omega)
      rw [h2, zflat_at ps i _ hd j hj]
    refine ⟨g, 0, rfl, ?_, ?_⟩
    · rw [Nat.zero_add]; exact hc 0 (by omega)
    · rw [Nat.zero_add]; exact hc 1 (by omega)
theorem OwnZ.read {w : World} {base : Nat} {v : Value} {ps : List (Int × Int)} (h : OwnZ w base v ps) : ∃ a c, v = .slice a ps.length c := by
  rcases h.2 with ⟨rfl, h0⟩ | ⟨g, cap, cur, rfl, _⟩
  · exact ⟨none, 0, by rw [h0]⟩
  · exact ⟨_, _, rfl⟩
theorem OwnZ.lo {w : World} {base : Nat} {v : Value} {ps : List (Int × Int)} (h : OwnZ w base v ps) : ∀ g, v.ownBlock = some g → base ≤ g := by
  rcases h.2 with ⟨rfl, _⟩ | ⟨g, cap, cur, rfl, hg, _⟩
  · simp [Value.ownBlock]
  · intro k e; simp [Value.ownBlock] at e; omega
theorem OwnZ.lt {w : World} {base : Nat} {v : Value} {ps : List (Int × Int)} (h : OwnZ w base v ps) (hp : 1 ≤ ps.length) : ∀ g, v.ownBlock = some g → g < w.heap.size := by
  intro k e
  obtain ⟨a, c, rfl⟩ := h.read
  obtain ⟨b, o, rfl, h0, _⟩ := h.pls 0 hp
  simp [Value.ownBlock] at e
  subst e
  exact lt_of_cell h0
theorem OwnZ.other {w w' : World} {base : Nat} {v : Value} {ps : List (Int × Int)} {row : Option Nat} (h : OwnZ w base v ps) (hg : w.grownBy w' row) (hne : ∀ k, v.ownBlock = some k → row ≠ some k) : OwnZ w' base v ps :=
  h.kept hg (by
    cases hv : v.ownBlock with
    | none => exact Or.inl rfl
    | some k => exact Or.inr (fun e => hne k hv e.symm))
theorem OwnZ.grown {w w' : World} {base : Nat} {v : Value} {ps : List (Int × Int)} (h : OwnZ w base v ps) (hb : Below w.heap.size w w') : OwnZ w' base v ps :=
  h.other (row := none) ⟨hb.os, hb.tape, hb.output, hb.size, fun k hk _ => hb.block k hk⟩ (fun k _ e => by cases e)
theorem OwnZ.weak {w : World} {base base' : Nat} {v : Value} {ps : List (Int × Int)} (h : OwnZ w base v ps) (hb : base' ≤ base) : OwnZ w base' v ps := by
  refine ⟨h.1, ?_⟩
  rcases h.2 with h2 | ⟨g, cap, cur, h1, hb', r⟩
  · exact Or.inl h2
  · exact Or.inr ⟨g, cap, cur, h1, by omega, r⟩
theorem OwnZ.new (w : World) : OwnZ (w.alloc (.cells #[] 168 (0, 0))) w.heap.size (.slice (some ⟨w.heap.size, 0, none⟩) 0 0) [] :=
  World.ownsRow_lit (base := w.heap.size) (size := 2) w #[] 0 (Nat.le_refl _) (by unfold maxLen; omega) rfl
theorem OwnZ.nil (w : World) (base : Nat) : OwnZ w base (.slice none 0 0) [] := ⟨by simp, Or.inl ⟨rfl, rfl⟩⟩
theorem infoZ : (Tryz.prog.info? 168).map (fun i => (i.zero, i.size, i.bytes)) = some (some (.agg #[.int .i64 0, .int .i64 0]), 2, 16) := by kernel_rfl
/-- append of places that stand in a block of their own -/
theorem wpList_append_zs {ops : Array Oper} {rest : List Oper} {o : Oper} {a : Act} {Q : Exit → Act → World → Prop} {W : World} (hgd : o.guard = none) (s x : Operand) (T : TypeId) (hT : Tryz.prog.underlying T = some (.slice 168))
    (ho : o.op = .call { callee := .builtin .append, args := #[s, x], argTypes := #[T, T] })
    (base : Nat) (v : Value) (l m : List (Int × Int)) (hs : a.eval s = v) (hown : OwnZ W base v l) (g n : Nat) (hn : n = m.length) (hx : a.eval x = .slice (some ⟨g, 0, none⟩) n n)
    (hg : W.heap[g]? = some (.cells (m.flatMap plZ).toArray 168 (0, 0))) (hl : l.length + m.length ≤ 100000000) (hb : base ≤ W.heap.size)
    (h : ∀ a' c' l' w', l' = l ++ m → OwnZ w' base (.slice a' l'.length c') l' → W.grownBy w' v.ownBlock → Below base W w' → ((Value.slice a' l'.length c').ownBlock = v.ownBlock ∨ (Value.slice a' l'.length c').ownBlock = some W.heap.size) → wpList Tryz.prog ops Q rest (a.put o.dst (.slice a' l'.length c')) w') : wpList Tryz.prog ops Q (o :: rest) a W := by
  subst hn
  obtain ⟨i0, hi, y0, y1, y2⟩ := info_parts infoZ
  refine wpList_append_own_at _ hgd s x T ho base 168 i0 _ 2 16 hT hi y0 y1 y2 rfl (by decide) v l.length (l.flatMap plZ) hs hown ⟨g, 0, none⟩ m.length m.length (m.flatMap plZ) hx (zflat_len m) ?_ zflat_one (by unfold maxLen; omega) (by omega) hb
    (fun v' w' h1 h2 _ h4 => ?_)
  · intro j u hu
    rw [Addr.add_lit, Nat.zero_add, (heap_cellR hg).1, ← hu]
    simp
  · have ho : OwnZ w' base v' (l ++ m) := by
      unfold OwnZ
      rw [List.length_append, List.flatMap_append]
      exact h1
    obtain ⟨a', c', e, _⟩ := ho.read
    exact h a' c' _ w' rfl ho h2 (below_of_grownBy h2 hb (fun k hk => hown.lo k hk)) h4

end Go.Proofs.YtlcglclojlffgaaGreat
namespace Go.Proofs.YtlcglclojlffgaaGreat
open Go.RowKit Go.Maps

/-! A map from places to truth values. -/
theorem laidP : laidOutB Tryz.prog = true := by kernel_rfl
theorem rowP : (168 : TypeId) < Tryz.prog.types.size := of_decide_eq_true (by kernel_rfl)
theorem pos_succ {a n : Nat} (h : a < n) : ∃ d, n = d + 1 := ⟨n - 1, by omega⟩
theorem deepP : Tryz.prog.keyTypeAt 2 168 = true := by kernel_rfl
theorem lawP : Keyed Tryz.prog 168 := Keyed.of_law (deep_law_laid laidP (m := 2) (by omega) rowP deepP (by rw [Tryz.underlying168]))
theorem keyTyP : Tryz.prog.keyType 168 = true := by kernel_rfl
theorem cellsP : Tryz.prog.cellsOf 168 = 2 := by kernel_rfl
theorem cellsI64m : Tryz.prog.cellsOf 2 = 1 := by kernel_rfl
theorem zeroBl (w : World) : (zeroValue 4).run Tryz.prog w = .ok (.bool false) w := by kernel_rfl
theorem sizeS : ∃ d, Tryz.prog.types.size = d + 1 := pos_succ rowP
/-- a place as a value -/
def plV (p : Int × Int) : Value := .agg #[.int .i64 p.1, .int .i64 p.2]
theorem plV_inj {p q : Int × Int} (h : plV p = plV q) : p = q := by
  obtain ⟨a, b⟩ := p
  obtain ⟨c, d⟩ := q
  simp [plV] at h
  rw [h.1, h.2]
theorem wf64 {z : Int} (h : -9223372036854775808 ≤ z ∧ z ≤ 9223372036854775807) : (Lit.int .i64 z).wf = true := by
  have e := wrap64_wf z
  rwa [IntWalk.wrap64_in _ (by omega)] at e
theorem keyP {r c : Int} (hr : (Lit.int .i64 r).wf = true) (hc : (Lit.int .i64 c).wf = true) : ∃ kl, keyOf Tryz.prog 168 (plV (r, c)) = some kl := by
  obtain ⟨d, hd⟩ := sizeS
  refine ⟨.string (keyBytes [.int .i64 r, .int .i64 c]), ?_⟩
  unfold keyOf
  rw [hd]
  simp [Tryz.underlying168, keyTyP, Value.formed, cellsP, plV, Value.cells, Program.keyLits, cellsI64m, Tryz.underlying2, hr, hc]
/-- the map at block b holds the places that T says -/
def Held (w : World) (b n : Nat) (T : Int × Int → Bool) : Prop :=
  ∃ D : DataW Unit, w.ownsMap Tryz.prog 168 (plainElem Tryz.prog 4) b n D ∧ IsMap D ∧ ∀ p kl, keyOf Tryz.prog 168 (plV p) = some kl → D.atKey kl (.lit (.bool false)) = .lit (.bool (T p))
theorem Held.made (w : World) : Held (w.alloc (.map #[] 0)) w.heap.size 0 (fun _ => false) := ⟨.map [], World.ownsMap_made _ _ _ _, isMap_empty, fun _ _ _ => rfl⟩
theorem Held.kept {w w' : World} {b n : Nat} {T : Int × Int → Bool} {row : Option Nat} (h : Held w b n T) (hg : w.grownBy w' row) (hne : some b ≠ row) : Held w' b n T := by
  obtain ⟨D, h1, h2, h3⟩ := h
  exact ⟨D, h1.kept hg hne, h2, h3⟩
theorem Held.lt {w : World} {b n : Nat} {T : Int × Int → Bool} (h : Held w b n T) : b < w.heap.size := by
  obtain ⟨D, h1, h2, h3⟩ := h
  exact h1.lt
theorem Held.below {w w' : World} {b n : Nat} {T : Int × Int → Bool} (h : Held w b n T) (hb : Below w.heap.size w w') : Held w' b n T :=
  h.kept (row := none) ⟨hb.os, hb.tape, hb.output, hb.size, fun k hk _ => hb.block k hk⟩ (by simp)
theorem Held.like {w : World} {b n : Nat} {T T' : Int × Int → Bool} (h : Held w b n T) (e : ∀ p, T p = T' p) : Held w b n T' := by
  obtain ⟨D, h1, h2, h3⟩ := h
  exact ⟨D, h1, h2, fun p kl hk => by rw [← e]; exact h3 p kl hk⟩
/-- m[p] = true at the operation -/
theorem wpList_mapSet {ops : Array Oper} {rest : List Oper} {o : Oper} {a : Act} {Q : Exit → Act → World → Prop} {w : World} (hg : o.guard = none) (m x v : Operand) (t : TypeId) (hop : o.op = Op.mapUpdate t m x v)
    (ht : Tryz.prog.underlying t = some (.map 168 4)) (b n : Nat) (T : Int × Int → Bool) (hm : a.eval m = .map (some b)) (hown : Held w b n T) (hn : n < maxLen) (r c : Int) (hr : (Lit.int .i64 r).wf = true) (hc : (Lit.int .i64 c).wf = true)
    (hx : a.eval x = plV (r, c)) (hv : a.eval v = .bool true)
    (hK : ∀ w', Held w' b (n + 1) (fun p => decide (p = (r, c)) || T p) → w.grownBy w' (some b) → wpList Tryz.prog ops Q rest (a.put o.dst undef) w') : wpList Tryz.prog ops Q (o :: rest) a w := by
  obtain ⟨D, h1, h2, h3⟩ := hown
  obtain ⟨kl, hk⟩ := keyP hr hc
  refine wpList_mapUpdate_own w hg m x v t hop 168 4 lawP ht _ b n D hm h1 hn _ _ kl hx hv hk _ [] (plainElem_bool Tryz.underlying4 true) (fun w' r1 r2 => hK w' ⟨_, r1, h2.put _ _, fun p kl' hk' => ?_⟩ r2)
  by_cases e : p = (r, c)
  · rw [e] at hk' ⊢
    have hk2 := Option.some.inj (hk.symm.trans hk')
    rw [← hk2]
    rw [atKey_put_same h2 (lawP.key hk)]
    simp
  · rw [atKey_put_other (show kl' ≠ kl from fun e2 => by subst e2; exact e (plV_inj (lawP.inj hk' hk))), h3 p kl' hk']
    simp [e]
theorem plainElem_bool_inv {P : Program} {e : TypeId} (he : P.underlying e = some .bool) {v : Value} {b : Bool} {ps : List MemPlace} (h : plainElem (H := Unit) P e v = some (.lit (.bool b), ps)) : v = .bool b := by
  unfold plainElem at h
  rw [he] at h
  cases v <;> simp at h
  · exact congrArg _ h.1
/-- m[p] at the operation -/
theorem wpList_mapGet {ops : Array Oper} {rest : List Oper} {o : Oper} {a : Act} {Q : Exit → Act → World → Prop} {w : World} (hg : o.guard = none) (m x : Operand) (t : TypeId) (hop : o.op = Op.lookup t m x false)
    (ht : Tryz.prog.underlying t = some (.map 168 4)) (b n : Nat) (T : Int × Int → Bool) (hm : a.eval m = .map (some b)) (hown : Held w b n T) (r c : Int) (hr : (Lit.int .i64 r).wf = true) (hc : (Lit.int .i64 c).wf = true)
    (hx : a.eval x = plV (r, c)) (hK : wpList Tryz.prog ops Q rest (a.put o.dst (.bool (T (r, c)))) w) : wpList Tryz.prog ops Q (o :: rest) a w := by
  obtain ⟨D, h1, h2, h3⟩ := hown
  obtain ⟨kl, hk⟩ := keyP hr hc
  refine wpList_plain hg fun K' hK' => ?_
  obtain ⟨v, ps, hrun, hv⟩ := h1.lookup lawP ht (zeroBl w) (plainElem_bool Tryz.underlying4 false) hk
  rw [h3 _ _ hk] at hv
  have e := plainElem_bool_inv Tryz.underlying4 hv
  subst e
  unfold Oper.wp
  simp [execOp, hop, hm, hx, hrun, Result.andThen]
  exact hK' _ _ hK

end Go.Proofs.YtlcglclojlffgaaGreat
namespace Go.Proofs.YtlcglclojlffgaaGreat
open Go.RowKit

/-- two lists of places in blocks of their own -/
structure TwoZ (w wr : World) (va vb : Value) (A B : List (Int × Int)) : Prop where
  a : OwnZ wr w.heap.size va A
  b : OwnZ wr w.heap.size vb B
  ne : ∃ ka kb, va.ownBlock = some ka ∧ vb.ownBlock = some kb ∧ ka ≠ kb ∧ ka < wr.heap.size ∧ kb < wr.heap.size
  below : Below w.heap.size w wr
theorem TwoZ.swap {w wr : World} {va vb : Value} {A B : List (Int × Int)} (h : TwoZ w wr va vb A B) : TwoZ w wr vb va B A := by
  obtain ⟨ka, kb, e1, e2, e3, e4, e5⟩ := h.ne
  exact ⟨h.b, h.a, ⟨kb, ka, e2, e1, fun e => e3 e.symm, e5, e4⟩, h.below⟩
theorem TwoZ.grown {w wr w2 : World} {va vb : Value} {A B : List (Int × Int)} (h : TwoZ w wr va vb A B) (hb : Below wr.heap.size wr w2) : TwoZ w w2 va vb A B := by
  obtain ⟨ka, kb, e1, e2, e3, e4, e5⟩ := h.ne
  have := hb.size
  exact ⟨h.a.grown hb, h.b.grown hb, ⟨ka, kb, e1, e2, e3, by omega, by omega⟩, bt0 h.below hb (Nat.le_refl _)⟩
theorem TwoZ.more {w W w' : World} {va va' vb : Value} {A A' B : List (Int × Int)} (h : TwoZ w W va vb A B) (ho : OwnZ w' w.heap.size va' A') (hp : 1 ≤ A'.length) (hg : W.grownBy w' va.ownBlock) (hb : Below w.heap.size W w')
    (hat : va'.ownBlock = va.ownBlock ∨ va'.ownBlock = some W.heap.size) : TwoZ w w' va' vb A' B := by
  obtain ⟨ka, kb, e1, e2, e3, e4, e5⟩ := h.ne
  have hs := hg.size
  refine ⟨ho, h.b.other hg (fun k hk e => ?_), ?_, h.below.trans hb⟩
  · rw [e1] at e; rw [e2] at hk
    have h1 := Option.some.inj e
    have h2 := Option.some.inj hk
    omega
  · rcases hat with h1 | h1
    · exact ⟨ka, kb, h1.trans e1, e2, e3, by omega, by omega⟩
    · exact ⟨W.heap.size, kb, h1, e2, by omega, ho.lt hp _ h1, by omega⟩
/-- two lists of places are handed back -/
def RetTwoZ (w : World) (A B : List (Int × Int)) (e : Ending) (w' : World) : Prop :=
  ∃ a c b d, e = .returned (.tuple #[.slice a A.length c, .slice b B.length d]) ∧ TwoZ w w' (.slice a A.length c) (.slice b B.length d) A B
theorem fmtA_1 : ∀ c, c < 6 → fmtA.take c ++ [(8, (c : Int))] = fmtA.take (c + 1) := by decide
theorem fmtA_2 : fmtA.take 6 ++ [(8, 7), (8, 8), (7, 8)] = fmtA.take 9 := by decide
theorem fmtA_3 : ∀ j, j < 6 → fmtA.take (9 + j) ++ [(5 - (j : Int), 8)] = fmtA.take (9 + (j + 1)) := by decide
theorem fmtB_1 (n : Int) : ∀ j, j < 7 → (fmtB n).take j ++ [(n - 1 - (j : Int), 8)] = (fmtB n).take (j + 1) := by
  intro j hj
  rcases (show j = 0 ∨ j = 1 ∨ j = 2 ∨ j = 3 ∨ j = 4 ∨ j = 5 ∨ j = 6 by omega) with rfl | rfl | rfl | rfl | rfl | rfl | rfl <;> simp [fmtB] <;> omega
theorem fmtB_2 (n : Int) : ∀ j, j < 8 → (fmtB n).take (7 + j) ++ [(8, n - 8 + (j : Int))] = (fmtB n).take (7 + (j + 1)) := by
  intro j hj
  rcases (show j = 0 ∨ j = 1 ∨ j = 2 ∨ j = 3 ∨ j = 4 ∨ j = 5 ∨ j = 6 ∨ j = 7 by omega) with rfl | rfl | rfl | rfl | rfl | rfl | rfl | rfl <;> simp [fmtB] <;> omega
theorem fmt_takeA : fmtA.take 15 = fmtA := by decide
theorem fmt_takeB (n : Int) : (fmtB n).take 15 = fmtB n := rfl
theorem fmtA_len (k : Nat) : (fmtA.take k).length ≤ 15 := by rw [List.length_take]; exact Nat.min_le_right _ _
theorem fmtB_len (n : Int) (k : Nat) : ((fmtB n).take k).length ≤ 15 := by rw [List.length_take]; exact Nat.min_le_right _ _
theorem snoc_pos (l m : List (Int × Int)) (h : 1 ≤ m.length) : 1 ≤ (l ++ m).length := by rw [List.length_append]; omega

set_option maxRecDepth 100000 in
set_option maxHeartbeats 4000000 in
theorem formats_any (n : Int) (w : World) (hn : 17 ≤ n) (hn2 : n ≤ 41) :
    Calls Tryz.prog 139 #[.int .i64 n] w (RetTwoZ w fmtA (fmtB n)) := by
  have HS0 := Lib.hid (show TwoZ w ((w.alloc (.cells #[] 168 (0, 0))).alloc (.cells #[] 168 (0, 0))) (.slice (some ⟨w.heap.size, 0, none⟩) 0 0) (.slice (some ⟨w.heap.size + 1, 0, none⟩) 0 0) (fmtA.take 0) ((fmtB n).take 0) from by
    have h1 : (w.alloc (.cells #[] 168 (0, 0))).heap.size = w.heap.size + 1 := by simp
    refine ⟨(OwnZ.new w).grown (ba1 _ _), ?_, ⟨w.heap.size, w.heap.size + 1, rfl, rfl, by omega, by simp; omega, by simp⟩, ba2 _ _ _⟩
    have h2 := OwnZ.new (w.alloc (.cells #[] 168 (0, 0)))
    rw [h1] at h2
    exact h2.weak (by omega))
  go_enter Tryz.func139, Tryz.ntmps139
  go_wp2_with fail
  go_loopw [4, 6] (fun f c wr => ∃ (c' : Nat) (fa : Option Addr) (fc : Nat) (l : List (Int × Int)), c' ≤ 6 ∧ c = .int .i64 c' ∧ l = fmtA.take c' ∧ f = .slice fa l.length fc ∧ TwoZ w wr f (.slice (some ⟨w.heap.size + 1, 0, none⟩) 0 0) l []) (fun _ c _ => 6 - (intOf c).toNat)
  case atStart => exact ⟨0, _, _, [], by omega, rfl, rfl, rfl, HS0.out⟩
  case round =>
    obtain ⟨c', fa, fc, l, hc, rfl, hl, rfl, hst⟩ := hrel
    have HST := Lib.hid hst
    have HE := Lib.hid hl
    clear hst hl
    by_cases hlt : c' < 6
    · have hlti : (c' : Int) ≤ 5 := by omega
      have HL := Lib.hid (fmtA_1 c' hlt)
      have HLn := Lib.hid (show l.length ≤ 15 by rw [HE.out]; exact fmtA_len c')
      go_wp2_with (at_builtin; refine wpList_append_zs (o := _) rfl (.tmp 16) (.tmp 19) 153 Tryz.underlying153 rfl w.heap.size (.slice fa l.length fc) l [(8, (c' : Int))] rfl (HST.out.a.grown (ba1 _ _)) wr.heap.size 1 rfl rfl (push_at _ _) ?c3 ?c4 ?h8)
      case c3 => have := HLn.out; first | omega | (simp; omega)
      case c4 => have := HST.out.below.size; first | omega | (simp; omega)
      case h8 =>
      intro a8 c8 l8 w8 he8 ho8 hg8 hb8 hat8
      have HT8 := Lib.hid ((HST.out.grown (ba1 _ _)).more ho8 (by rw [he8]; exact snoc_pos _ _ (Nat.le_refl _)) hg8 hb8 (hat8.imp id (fun h => by simpa using h)))
      rw [HE.out, HL.out] at he8
      have HE8 := Lib.hid he8
      clear ho8 hg8 hb8 hat8 he8
      go_wp2_with fail
      exact ⟨⟨c' + 1, _, _, l8, by omega, by go_num, HE8.out, rfl, HT8.out⟩, by simp [intOf]; omega⟩
    · have hlti : ¬ (c' : Int) ≤ 5 := by omega
      have hc6 : c' = 6 := by omega
      subst hc6
      have HLn := Lib.hid (show l.length ≤ 15 by rw [HE.out]; exact fmtA_len 6)
      go_wp2_with (at_builtin; refine wpList_append_zs (o := _) rfl (.tmp 21) (.tmp 25) 153 Tryz.underlying153 rfl w.heap.size (.slice fa l.length fc) l [(8, 7), (8, 8), (7, 8)] rfl (HST.out.a.grown (ba1 _ _)) wr.heap.size 3 rfl rfl (push_at _ _) ?c3 ?c4 ?h8)
      case c3 => have := HLn.out; first | omega | (simp; omega)
      case c4 => have := HST.out.below.size; first | omega | (simp; omega)
      case h8 =>
      intro a8 c8 l8 w8 he8 ho8 hg8 hb8 hat8
      have HT8 := Lib.hid ((HST.out.grown (ba1 _ _)).more ho8 (by rw [he8]; exact snoc_pos _ _ (by decide)) hg8 hb8 (hat8.imp id (fun h => by simpa using h)))
      rw [HE.out, fmtA_2] at he8
      have HE8 := Lib.hid he8
      clear ho8 hg8 hb8 hat8 he8 HST HLn HE HS0
      go_wp2_with fail
      go_loopw [4, 7] (fun f c wr => ∃ (j : Nat) (fa : Option Addr) (fc : Nat) (l : List (Int × Int)), j ≤ 6 ∧ c = .int .i64 (5 - (j : Int)) ∧ l = fmtA.take (9 + j) ∧ f = .slice fa l.length fc ∧ TwoZ w wr f (.slice (some ⟨w.heap.size + 1, 0, none⟩) 0 0) l []) (fun _ c _ => (1 + intOf c).toNat)
      case atStart => exact ⟨0, _, _, l8, by omega, rfl, HE8.out, rfl, HT8.out⟩
      case round =>
        obtain ⟨j, fa, fc, l, hj, rfl, hl, rfl, hst⟩ := hrel
        have HST := Lib.hid hst
        have HE := Lib.hid hl
        clear hst hl HT8 HE8
        by_cases hlt : j < 6
        · have hlti : (0 : Int) ≤ 5 - (j : Int) := by omega
          have HL := Lib.hid (fmtA_3 j hlt)
          have HLn := Lib.hid (show l.length ≤ 15 by rw [HE.out]; exact fmtA_len _)
          go_wp2_with (at_builtin; refine wpList_append_zs (o := _) rfl (.tmp 31) (.tmp 34) 153 Tryz.underlying153 rfl w.heap.size (.slice fa l.length fc) l [(5 - (j : Int), 8)] rfl (HST.out.a.grown (ba1 _ _)) wr.heap.size 1 rfl rfl (push_at _ _) ?c3 ?c4 ?h8)
          case c3 => have := HLn.out; first | omega | (simp; omega)
          case c4 => have := HST.out.below.size; first | omega | (simp; omega)
          case h8 =>
          intro a9 c9 l9 w9 he9 ho9 hg9 hb9 hat9
          have HT9 := Lib.hid ((HST.out.grown (ba1 _ _)).more ho9 (by rw [he9]; exact snoc_pos _ _ (Nat.le_refl _)) hg9 hb9 (hat9.imp id (fun h => by simpa using h)))
          rw [HE.out, HL.out] at he9
          have HE9 := Lib.hid he9
          clear ho9 hg9 hb9 hat9 he9
          go_wp2_with fail
          exact ⟨⟨j + 1, _, _, l9, by omega, by go_num, HE9.out, rfl, HT9.out⟩, by simp [intOf]; omega⟩
        · have hj6 : j = 6 := by omega
          subst hj6
          have HEA := Lib.hid (show l = fmtA by rw [HE.out]; exact fmt_takeA)
          clear HE
          have HTs := Lib.hid HST.out.swap
          clear HST
          rw [show (5 : Int) - ((6 : Nat) : Int) = -1 from rfl]
          go_wp2_with fail
          go_loopw [5, 8] (fun f c wr => ∃ (j : Nat) (fb : Option Addr) (fd : Nat) (m : List (Int × Int)), j ≤ 7 ∧ c = .int .i64 (n - 1 - (j : Int)) ∧ m = (fmtB n).take j ∧ f = .slice fb m.length fd ∧ TwoZ w wr f (.slice fa l.length fc) m l) (fun _ c _ => (intOf c - n + 8).toNat)
          case atStart => exact ⟨0, _, _, [], by omega, by go_num, rfl, rfl, HTs.out⟩
          case round =>
            obtain ⟨j, fb, fd, m, hj, rfl, hl, rfl, hst⟩ := hrel
            have HST := Lib.hid hst
            have HE := Lib.hid hl
            clear hst hl HTs
            by_cases hlt : j < 7
            · have hlti : n - 7 ≤ n - 1 - (j : Int) := by omega
              have HL := Lib.hid (fmtB_1 n j hlt)
              have HLn := Lib.hid (show m.length ≤ 15 by rw [HE.out]; exact fmtB_len _ _)
              go_wp2_with (at_builtin; refine wpList_append_zs (o := _) rfl (.tmp 44) (.tmp 47) 153 Tryz.underlying153 rfl w.heap.size (.slice fb m.length fd) m [(n - 1 - (j : Int), 8)] rfl (HST.out.a.grown (ba1 _ _)) wr.heap.size 1 rfl rfl (push_at _ _) ?c3 ?c4 ?h8)
              case c3 => have := HLn.out; first | omega | (simp; omega)
              case c4 => have := HST.out.below.size; first | omega | (simp; omega)
              case h8 =>
              intro a9 c9 l9 w9 he9 ho9 hg9 hb9 hat9
              have HT9 := Lib.hid ((HST.out.grown (ba1 _ _)).more ho9 (by rw [he9]; exact snoc_pos _ _ (Nat.le_refl _)) hg9 hb9 (hat9.imp id (fun h => by simpa using h)))
              rw [HE.out, HL.out] at he9
              have HE9 := Lib.hid he9
              clear ho9 hg9 hb9 hat9 he9
              go_wp2_with fail
              exact ⟨⟨j + 1, _, _, l9, by omega, by go_num, HE9.out, rfl, HT9.out⟩, by simp [intOf]; omega⟩
            · have hlti : ¬ n - 7 ≤ n - 1 - (j : Int) := by omega
              have hj7 : j = 7 := by omega
              subst hj7
              rw [show n - 1 - ((7 : Nat) : Int) = n - 8 by omega] at hlti ⊢
              go_wp2_with fail
              go_loopw [5, 9] (fun f c wr => ∃ (j : Nat) (fb : Option Addr) (fd : Nat) (m : List (Int × Int)), j ≤ 8 ∧ c = .int .i64 (n - 8 + (j : Int)) ∧ m = (fmtB n).take (7 + j) ∧ f = .slice fb m.length fd ∧ TwoZ w wr f (.slice fa l.length fc) m l) (fun _ c _ => (n - intOf c).toNat)
              case atStart => exact ⟨0, _, _, m, by omega, by go_num, HE.out, rfl, HST.out⟩
              case round =>
                obtain ⟨j, fb, fd, m, hj, rfl, hl, rfl, hst⟩ := hrel
                have HST := Lib.hid hst
                have HE := Lib.hid hl
                clear hst hl
                by_cases hlt : j < 8
                · have hlti : n - 8 + (j : Int) < n := by omega
                  have HL := Lib.hid (fmtB_2 n j hlt)
                  have HLn := Lib.hid (show m.length ≤ 15 by rw [HE.out]; exact fmtB_len _ _)
                  go_wp2_with (at_builtin; refine wpList_append_zs (o := _) rfl (.tmp 56) (.tmp 59) 153 Tryz.underlying153 rfl w.heap.size (.slice fb m.length fd) m [(8, n - 8 + (j : Int))] rfl (HST.out.a.grown (ba1 _ _)) wr.heap.size 1 rfl rfl (push_at _ _) ?c3 ?c4 ?h8)
                  case c3 => have := HLn.out; first | omega | (simp; omega)
                  case c4 => have := HST.out.below.size; first | omega | (simp; omega)
                  case h8 =>
                  intro a9 c9 l9 w9 he9 ho9 hg9 hb9 hat9
                  have HT9 := Lib.hid ((HST.out.grown (ba1 _ _)).more ho9 (by rw [he9]; exact snoc_pos _ _ (Nat.le_refl _)) hg9 hb9 (hat9.imp id (fun h => by simpa using h)))
                  rw [HE.out, HL.out] at he9
                  have HE9 := Lib.hid he9
                  clear ho9 hg9 hb9 hat9 he9
                  go_wp2_with fail
                  exact ⟨⟨j + 1, _, _, l9, by omega, by go_num, HE9.out, rfl, HT9.out⟩, by simp [intOf]; omega⟩
                · have hlti : ¬ n - 8 + (j : Int) < n := by omega
                  have hj8 : j = 8 := by omega
                  subst hj8
                  have HEB := Lib.hid (show m = fmtB n by rw [HE.out]; exact fmt_takeB n)
                  go_wp2_with fail
                  go_ret2
                  have h1 := HEB.out
                  have h2 := HEA.out
                  subst h1 h2
                  exact ⟨_, _, _, _, rfl, HST.out.swap⟩

end Go.Proofs.YtlcglclojlffgaaGreat
namespace Go.Proofs.YtlcglclojlffgaaGreat
open Go.RowKit

set_option maxHeartbeats 400000 in
theorem dist_any (n : Int) (w : World) (h1 : -100000 ≤ n) (h2 : n ≤ 100000) :
    Calls Tryz.prog 146 #[.int .i64 n] w fun e w' => e = .returned (.int .i64 (absI n)) ∧ w = w' := by
  go_enter Tryz.func146, Tryz.ntmps146
  go_wp2_with fail
  all_goals go_ret
  all_goals exact ⟨ret_int (by unfold absI; split <;> omega), rfl⟩
set_option maxHeartbeats 400000 in
theorem finder_any (r c : Int) (w : World) (h1 : -1000 ≤ r) (h2 : r ≤ 1000) (h3 : -1000 ≤ c) (h4 : c ≤ 1000) :
    Calls Tryz.prog 148 #[.int .i64 r, .int .i64 c] w fun e w' => e = .returned (.int .i64 (findI r c)) ∧ w = w' := by
  obtain ⟨d, hd⟩ : ∃ d, d = dst r c := ⟨_, rfl⟩
  have HF := Lib.hid (show findI r c = if d = 2 ∨ d = 4 then 0 else 1 by rw [findI, hd])
  have HD := Lib.hid (show (if absI r < absI c then absI c else absI r) = d by rw [hd, dst]; split <;> split <;> omega)
  clear hd
  have hcase : (d = 2 ∨ d = 4) ∨ ¬ (d = 2 ∨ d = 4) := Classical.em _
  rcases hcase with hc | hc
  · have HV := Lib.hid (show findI r c = 0 by rw [HF.out, if_pos hc])
    have hdd := HD.out
    rcases hc with rfl | rfl
    all_goals
      clear HF
      go_enter Tryz.func148, Tryz.ntmps148
      go_wp2_with fail
      refine (dist_any r _ (by omega) (by omega)).mono ?_
      rintro e w' ⟨rfl, rfl⟩
      go_wp2_with fail
      refine (dist_any c _ (by omega) (by omega)).mono ?_
      rintro e w' ⟨rfl, rfl⟩
      go_wp2_with fail
      all_goals go_ret
      all_goals exact ⟨ret_int HV.out.symm, rfl⟩
  · have HV := Lib.hid (show findI r c = 1 by rw [HF.out, if_neg hc])
    have hdd := HD.out
    have d2 : (d == 2) = false := by rw [beq_eq_false_iff_ne]; omega
    have d4 : (d == 4) = false := by rw [beq_eq_false_iff_ne]; omega
    clear HF hc
    go_enter Tryz.func148, Tryz.ntmps148
    go_wp2_with fail
    refine (dist_any r _ (by omega) (by omega)).mono ?_
    rintro e w' ⟨rfl, rfl⟩
    go_wp2_with fail
    refine (dist_any c _ (by omega) (by omega)).mono ?_
    rintro e w' ⟨rfl, rfl⟩
    go_wp2_with fail
    all_goals go_ret
    all_goals exact ⟨ret_int HV.out.symm, rfl⟩
set_option maxHeartbeats 1000000 in
theorem middle_any (n r c : Int) (w : World) (hn : 17 ≤ n) (hn2 : n ≤ 41) :
    Calls Tryz.prog 145 #[.int .i64 n, .agg #[.int .i64 r, .int .i64 c]] w fun e w' => e = .returned (.agg #[.int .i64 (midI n r), .int .i64 (midI n c)]) ∧ Below w.heap.size w w' := by
  by_cases e1 : n / 2 < r
  · by_cases e2 : n / 2 < c
    · have h1 : midI n r = n - 4 := by rw [midI, if_pos e1]
      have h2 : midI n c = n - 4 := by rw [midI, if_pos e2]
      rw [h1, h2]
      clear h1 h2
      go_enter Tryz.func145, Tryz.ntmps145
      go_wp2_with fail
      refine bodyPost_ret (v := .agg #[.int .i64 (n - 4), .int .i64 (n - 4)]) (by simp [results, Tryz.results145, go_sem]) rfl ⟨rfl, ?_⟩
      exact ba3 _ _ _ _
    · have h1 : midI n r = n - 4 := by rw [midI, if_pos e1]
      have h2 : midI n c = 3 := by rw [midI, if_neg e2]
      rw [h1, h2]
      clear h1 h2
      go_enter Tryz.func145, Tryz.ntmps145
      go_wp2_with fail
      refine bodyPost_ret (v := .agg #[.int .i64 (n - 4), .int .i64 (3)]) (by simp [results, Tryz.results145, go_sem]) rfl ⟨rfl, ?_⟩
      exact ba3 _ _ _ _
  · by_cases e2 : n / 2 < c
    · have h1 : midI n r = 3 := by rw [midI, if_neg e1]
      have h2 : midI n c = n - 4 := by rw [midI, if_pos e2]
      rw [h1, h2]
      clear h1 h2
      go_enter Tryz.func145, Tryz.ntmps145
      go_wp2_with fail
      refine bodyPost_ret (v := .agg #[.int .i64 (3), .int .i64 (n - 4)]) (by simp [results, Tryz.results145, go_sem]) rfl ⟨rfl, ?_⟩
      exact ba3 _ _ _ _
    · have h1 : midI n r = 3 := by rw [midI, if_neg e1]
      have h2 : midI n c = 3 := by rw [midI, if_neg e2]
      rw [h1, h2]
      clear h1 h2
      go_enter Tryz.func145, Tryz.ntmps145
      go_wp2_with fail
      refine bodyPost_ret (v := .agg #[.int .i64 (3), .int .i64 (3)]) (by simp [results, Tryz.results145, go_sem]) rfl ⟨rfl, ?_⟩
      exact ba3 _ _ _ _

end Go.Proofs.YtlcglclojlffgaaGreat
namespace Go.Proofs.YtlcglclojlffgaaGreat
open Go.RowKit

theorem midI_bd {n r : Int} (hn : 17 ≤ n) (hn2 : n ≤ 41) : 3 ≤ midI n r ∧ midI n r ≤ 37 := by unfold midI; split <;> omega
theorem quietS {P : Program} {f : FuncId} {args : Array Value} {w : World} {n : Nat} {v : Value} (h : Calls P f args (w.drewN n) fun e w' => e = .returned v ∧ w.drewN n = w') : Calls P f args (w.drewN n) fun e w'' => e = .returned v ∧ ∃ m, w'' = w.drewN m :=
  Calls.quiet_of_same (h.mono fun _ _ ⟨h1, h2⟩ => ⟨h1, h2.symm⟩)
set_option maxHeartbeats 1000000 in
theorem pat3_any (n r c : Int) (w : World) (hn : 17 ≤ n) (hn2 : n ≤ 41) :
    Calls Tryz.prog 149 #[.int .i64 n, .agg #[.int .i64 r, .int .i64 c]] w fun e w' => e = .returned (.bool (decide (r = 6 ∧ 8 ≤ c ∧ c ≤ n - 9))) ∧ Below w.heap.size w w' := by
  by_cases h : r = 6
  · subst h
    have HR := Lib.hid (show decide ((6 : Int) = 6 ∧ 8 ≤ c ∧ c ≤ n - 9) = inB c 8 (n - 9) by simp [inB])
    go_enter Tryz.func149, Tryz.ntmps149
    go_wp2_with fail
    refine (inRange_any _ _ _ _).mono ?_
    rintro e w' ⟨rfl, rfl⟩
    go_wp2_with fail
    go_ret
    exact ⟨ret_bool HR.out.symm, ba1 _ _⟩
  · have h' : (r == 6) = false := by rw [beq_eq_false_iff_ne]; exact h
    have HR := Lib.hid (show decide (r = 6 ∧ 8 ≤ c ∧ c ≤ n - 9) = false by simp; omega)
    clear h
    go_enter Tryz.func149, Tryz.ntmps149
    go_wp2_with fail
    go_ret
    exact ⟨ret_bool HR.out.symm, ba1 _ _⟩
set_option maxHeartbeats 1000000 in
theorem pat5_any (n r c : Int) (w : World) (hn : 17 ≤ n) (hn2 : n ≤ 41) :
    Calls Tryz.prog 151 #[.int .i64 n, .agg #[.int .i64 r, .int .i64 c]] w fun e w' => e = .returned (.bool (decide (c = 6 ∧ 8 ≤ r ∧ r ≤ n - 9))) ∧ Below w.heap.size w w' := by
  by_cases h : c = 6
  · subst h
    have HR := Lib.hid (show decide ((6 : Int) = 6 ∧ 8 ≤ r ∧ r ≤ n - 9) = inB r 8 (n - 9) by simp [inB])
    go_enter Tryz.func151, Tryz.ntmps151
    go_wp2_with fail
    refine (inRange_any _ _ _ _).mono ?_
    rintro e w' ⟨rfl, rfl⟩
    go_wp2_with fail
    go_ret
    exact ⟨ret_bool HR.out.symm, ba1 _ _⟩
  · have h' : (c == 6) = false := by rw [beq_eq_false_iff_ne]; exact h
    have HR := Lib.hid (show decide (c = 6 ∧ 8 ≤ r ∧ r ≤ n - 9) = false by simp; omega)
    clear h
    go_enter Tryz.func151, Tryz.ntmps151
    go_wp2_with fail
    go_ret
    exact ⟨ret_bool HR.out.symm, ba1 _ _⟩
set_option maxHeartbeats 1000000 in
theorem pat4_any (n r c : Int) (w : World) (hc : 0 ≤ c) (hc2 : c ≤ 41) :
    Calls Tryz.prog 150 #[.int .i64 n, .agg #[.int .i64 r, .int .i64 c]] w fun e w' => e = .returned (.int .i64 (1 - c % 2)) ∧ Below w.heap.size w w' := by
  go_enter Tryz.func150, Tryz.ntmps150
  go_wp2_with fail
  go_ret
  exact ⟨rfl, ba1 _ _⟩
set_option maxHeartbeats 1000000 in
theorem pat6_any (n r c : Int) (w : World) (hr : 0 ≤ r) (hr2 : r ≤ 41) :
    Calls Tryz.prog 152 #[.int .i64 n, .agg #[.int .i64 r, .int .i64 c]] w fun e w' => e = .returned (.int .i64 (1 - r % 2)) ∧ Below w.heap.size w w' := by
  go_enter Tryz.func152, Tryz.ntmps152
  go_wp2_with fail
  go_ret
  exact ⟨rfl, ba1 _ _⟩
set_option maxHeartbeats 1000000 in
theorem pat8_any (n r c : Int) (w : World) :
    Calls Tryz.prog 154 #[.int .i64 n, .agg #[.int .i64 r, .int .i64 c]] w fun e w' => e = .returned (.int .i64 1) ∧ Below w.heap.size w w' := by
  go_enter Tryz.func154, Tryz.ntmps154
  go_wp2_with fail
  go_ret
  first | exact ⟨rfl, ba1 _ _⟩ | exact ⟨rfl, Below.refl _ _⟩
set_option maxHeartbeats 1000000 in
theorem pat7_any (n r c : Int) (w : World) (hn : 17 ≤ n) (hn2 : n ≤ 41) :
    Calls Tryz.prog 153 #[.int .i64 n, .agg #[.int .i64 r, .int .i64 c]] w fun e w' => e = .returned (.bool (decide (r = n - 8 ∧ c = 8))) ∧ Below w.heap.size w w' := by
  go_enter Tryz.func153, Tryz.ntmps153
  go_wp2_with fail
  all_goals go_ret
  all_goals exact ⟨ret_bool (by simp_all), ba1 _ _⟩
set_option maxHeartbeats 1000000 in
theorem pat2_any (n r c : Int) (w : World) (hn : 17 ≤ n) (hn2 : n ≤ 41) (hr : 0 ≤ r) (hr2 : r ≤ 41) (hc : 0 ≤ c) (hc2 : c ≤ 41) :
    Calls Tryz.prog 147 #[.int .i64 n, .agg #[.int .i64 r, .int .i64 c]] w fun e w' => e = .returned (.int .i64 (findI (r - midI n r) (c - midI n c))) ∧ Below w.heap.size w w' := by
  have hu := midI_bd (r := r) hn hn2
  have hv := midI_bd (r := c) hn hn2
  go_enter Tryz.func147, Tryz.ntmps147
  go_wp2_with fail
  refine (middle_any n r c _ hn hn2).mono ?_
  rintro e w1 ⟨rfl, hb1⟩
  have hbox := box1 hb1
  have hz : w.heap.size < w1.heap.size := by have := hb1.size; simp at this; omega
  have HB := Lib.hid (bt1 hb1)
  clear hb1
  go_wp2_with fail
  refine (finder_any _ _ _ (by omega) (by omega) (by omega) (by omega)).mono ?_
  rintro e w2 ⟨rfl, rfl⟩
  go_wp2_with fail
  go_ret
  exact ⟨rfl, bt0 HB.out (ba1 _ _) (Nat.le_refl _)⟩

theorem inF_eq (n r c d : Int) (hd : d = dst (r - midI n r) (c - midI n c)) : inF n r c = ((midI n r == 3 || midI n c == 3) && decide (d ≤ 4)) := by rw [inF, hd]
set_option maxRecDepth 100000 in
set_option maxHeartbeats 2000000 in
theorem pat1_any (n r c : Int) (w : World) (hn : 17 ≤ n) (hn2 : n ≤ 41) (hr : 0 ≤ r) (hr2 : r ≤ 41) (hc : 0 ≤ c) (hc2 : c ≤ 41) :
    Calls Tryz.prog 144 #[.int .i64 n, .agg #[.int .i64 r, .int .i64 c]] w fun e w' => e = .returned (.bool (inF n r c)) ∧ Below w.heap.size w w' := by
  have hu := midI_bd (r := r) hn hn2
  have hv := midI_bd (r := c) hn hn2
  obtain ⟨d, hd⟩ : ∃ d, d = dst (r - midI n r) (c - midI n c) := ⟨_, rfl⟩
  have HI := Lib.hid (inF_eq n r c d hd)
  have HM := Lib.hid (fun W => middle_any n r c W hn hn2)
  obtain ⟨u, hu'⟩ : ∃ u, u = midI n r := ⟨_, rfl⟩
  obtain ⟨v, hv'⟩ : ∃ v, v = midI n c := ⟨_, rfl⟩
  rw [← hu'] at hu hd HI HM
  rw [← hv'] at hv hd HI HM
  have HD := Lib.hid (show (if absI (r - u) < absI (c - v) then absI (c - v) else absI (r - u)) = d by rw [hd, dst]; split <;> split <;> omega)
  clear hu' hv' hd
  by_cases g : u = 3 ∨ v = 3
  · have HR := Lib.hid (show inF n r c = decide (d ≤ 4) by
      rw [HI.out]
      rcases g with rfl | rfl <;> simp)
    rcases (show u = 3 ∨ (u ≠ 3 ∧ v = 3) by omega) with rfl | ⟨gu, rfl⟩
    all_goals
      first | (have gu' : (u == 3) = false := by rw [beq_eq_false_iff_ne]; exact gu) | skip
      clear g
      first | clear gu | skip
      go_enter Tryz.func144, Tryz.ntmps144
      go_wp2_with fail
      refine (HM.out _).mono ?_
      rintro e w1 ⟨rfl, hb1⟩
      have hbox := box1 hb1
      have hz : w.heap.size < w1.heap.size := by have := hb1.size; simp at this; omega
      have HB := Lib.hid (bt1 hb1)
      have hdd := HD.out
      clear hb1
      go_wp2_with fail
      go_quiet ((go_at_call 146; exact quietS (dist_any _ _ (by omega) (by omega))))
      go_wp2_with fail
      go_ret
      exact ⟨ret_bool HR.out.symm, bt0 HB.out ((ba1 _ _).trans (below_drewN (Below.refl _ _) nq)) (Nat.le_refl _)⟩
  · have HR := Lib.hid (show inF n r c = false by
      rw [HI.out]
      have h1 : (u == 3) = false := by rw [beq_eq_false_iff_ne]; omega
      have h2 : (v == 3) = false := by rw [beq_eq_false_iff_ne]; omega
      rw [h1, h2]; rfl)
    have h1 : (u == 3) = false := by rw [beq_eq_false_iff_ne]; omega
    have h2 : (v == 3) = false := by rw [beq_eq_false_iff_ne]; omega
    clear g
    go_enter Tryz.func144, Tryz.ntmps144
    go_wp2_with fail
    refine (HM.out _).mono ?_
    rintro e w1 ⟨rfl, hb1⟩
    have hbox := box1 hb1
    have hz : w.heap.size < w1.heap.size := by have := hb1.size; simp at this; omega
    have HB := Lib.hid (bt1 hb1)
    clear hb1
    go_wp2_with fail
    go_quiet (fail)
    go_wp2_with fail
    go_ret
    exact ⟨ret_bool HR.out.symm, bt0 HB.out ((ba1 _ _).trans (below_drewN (Below.refl _ _) nq)) (Nat.le_refl _)⟩

end Go.Proofs.YtlcglclojlffgaaGreat
namespace Go.Proofs.YtlcglclojlffgaaGreat
open Go.RowKit

/-- the blocks from lo on and below hi are as they were -/
structure Same (lo hi : Nat) (w w' : World) : Prop where
  os : w'.os = w.os
  tape : w'.tape = w.tape
  output : w'.output = w.output
  size : w.heap.size ≤ w'.heap.size
  block : ∀ k, lo ≤ k → k < hi → w'.heap[k]? = w.heap[k]?

theorem Same.of_below {lo hi : Nat} {w w' : World} (hb : Below w.heap.size w w') (h : hi ≤ w.heap.size) : Same lo hi w w' :=
  ⟨hb.os, hb.tape, hb.output, hb.size, fun k _ hk => hb.block k (by omega)⟩
theorem Same.of_grown {lo hi : Nat} {w w' : World} {row : Option Nat} (hg : w.grownBy w' row) (h : hi ≤ w.heap.size) (hr : ∀ k, row = some k → k < lo ∨ hi ≤ k) : Same lo hi w w' :=
  ⟨hg.os, hg.tape, hg.output, hg.size, fun k h1 hk => hg.block k (by omega) (fun e => by have := hr k e.symm; omega)⟩

/-- what is known of some blocks: a box, a slice of its own, numbers that a slice holds, all that lay below -/
inductive Fact where
  | box (b : Nat) (cs : Array Value) (t : TypeId)
  | own (lo hi : Nat) (v : Value) (zs : List Int)
  | below (w0 : World)
def Fact.lo : Fact → Nat
  | .box b _ _ => b
  | .own lo _ _ _ => lo
  | .below _ => 0
def Fact.hi : Fact → Nat
  | .box b _ _ => b + 1
  | .own _ hi _ _ => hi
  | .below w0 => w0.heap.size
def Fact.P : Fact → World → Prop
  | .box b cs t, w => w.heap[b]? = some (.cells cs t (0, 0))
  | .own lo hi v zs, w => OwnI w lo v zs ∧ (∀ k, v.ownBlock = some k → k < hi)
  | .below w0, w => Below w0.heap.size w0 w
theorem Fact.keep (F : Fact) (w w' : World) (hs : Same F.lo F.hi w w') (h : F.P w) : F.P w' := by
  cases F with
  | box b cs t => exact (hs.block b (Nat.le_refl _) (Nat.lt_succ_self _)).trans h
  | own lo hi v zs =>
    obtain ⟨ho, hh⟩ : OwnI w lo v zs ∧ (∀ k, v.ownBlock = some k → k < hi) := h
    refine ⟨⟨ho.1, ?_⟩, hh⟩
    rcases ho.2 with h2 | ⟨g, cap, cur, h1, hb, hg, r⟩
    · exact Or.inl h2
    · refine Or.inr ⟨g, cap, cur, h1, hb, ?_, r⟩
      rw [hs.block g hb (hh g (by rw [h1]; rfl))]
      exact hg
  | below w0 =>
    have h : Below w0.heap.size w0 w := h
    exact (⟨hs.os.trans h.os, hs.tape.trans h.tape, hs.output.trans h.output, Nat.le_trans h.size hs.size, fun k hk => (hs.block k (Nat.zero_le _) hk).trans (h.block k hk)⟩ : Below w0.heap.size w0 w')

/-- what is known, each of other blocks -/
def Facts (L : List Fact) (w : World) : Prop := (∀ F ∈ L, F.P w ∧ F.lo ≤ F.hi ∧ F.hi ≤ w.heap.size) ∧ L.Pairwise (fun F G => G.hi ≤ F.lo ∨ F.hi ≤ G.lo)

theorem Facts.nil (w : World) : Facts [] w := ⟨by simp, List.Pairwise.nil⟩
theorem Facts.get {L : List Fact} {w : World} (h : Facts L w) (i : Nat) {F : Fact} (hF : L[i]? = some F) : F.P w := (h.1 F (List.mem_of_getElem? hF)).1
theorem Facts.top {L : List Fact} {w : World} (h : Facts L w) (i : Nat) {F : Fact} (hF : L[i]? = some F) : F.hi ≤ w.heap.size := (h.1 F (List.mem_of_getElem? hF)).2.2
theorem Facts.ord {L : List Fact} {w : World} (h : Facts L w) {i j : Nat} {F G : Fact} (hF : L[i]? = some F) (hG : L[j]? = some G) (hij : i < j) : G.hi ≤ F.lo ∨ F.hi ≤ G.lo := by
  obtain ⟨hi, rfl⟩ := List.getElem?_eq_some_iff.1 hF
  obtain ⟨hj, rfl⟩ := List.getElem?_eq_some_iff.1 hG
  exact List.pairwise_iff_getElem.1 h.2 i j hi hj hij
theorem Facts.below {L : List Fact} {w w' : World} (h : Facts L w) (hb : Below w.heap.size w w') : Facts L w' :=
  ⟨fun F hF => let ⟨a, b, c⟩ := h.1 F hF; ⟨F.keep w w' (Same.of_below hb c) a, b, Nat.le_trans c hb.size⟩, h.2⟩
theorem Facts.add {L : List Fact} {w w' : World} (h : Facts L w) (hb : Below w.heap.size w w') (F : Fact) (hlo : w.heap.size ≤ F.lo) (hle : F.lo ≤ F.hi) (hhi : F.hi ≤ w'.heap.size) (hP : F.P w') : Facts (F :: L) w' := by
  have h' := h.below hb
  refine ⟨fun G hG => ?_, List.Pairwise.cons (fun G hG => Or.inl (Nat.le_trans (h.1 G hG).2.2 hlo)) h.2⟩
  rcases List.mem_cons.1 hG with rfl | hG
  · exact ⟨hP, hle, hhi⟩
  · exact h'.1 G hG
/-- one of them is written over -/
theorem Facts.turn {L : List Fact} {w w' : World} (h : Facts L w) (i : Nat) {F : Fact} (hF : L[i]? = some F) {row : Option Nat} (hg : w.grownBy w' row) (hr : ∀ k, row = some k → F.lo ≤ k ∧ k < F.hi) (F' : Fact) (h1 : F'.lo = F.lo) (h2 : F'.hi = F.hi) (hP : F'.P w') : Facts (L.set i F') w' := by
  obtain ⟨hi, he⟩ := List.getElem?_eq_some_iff.1 hF
  have hs := hg.size
  constructor
  · intro G hG
    obtain ⟨j, hj, rfl⟩ := List.mem_iff_getElem.1 hG
    rw [List.length_set] at hj
    rw [List.getElem_set]
    split
    · have := h.1 F (List.mem_of_getElem? hF)
      exact ⟨hP, by omega, by omega⟩
    · rename_i hne
      obtain ⟨a, b, c⟩ := h.1 L[j] (List.getElem_mem hj)
      refine ⟨L[j].keep w w' (Same.of_grown hg c (fun k hk => ?_)) a, b, Nat.le_trans c hs⟩
      obtain ⟨k1, k2⟩ := hr k hk
      have hij : i < j ∨ j < i := by omega
      rcases hij with hij | hij
      · have := h.ord hF (List.getElem?_eq_getElem hj) hij
        omega
      · have := h.ord (List.getElem?_eq_getElem hj) hF hij
        omega
  · rw [List.pairwise_iff_getElem]
    intro a b ha hb hab
    rw [List.length_set] at ha hb
    rw [List.getElem_set, List.getElem_set]
    have h0 := List.pairwise_iff_getElem.1 h.2
    by_cases e1 : i = a
    · subst e1
      rw [if_pos rfl, if_neg (by omega)]
      have := h0 i b hi hb hab
      rw [he] at this
      rw [h1, h2]
      exact this
    · rw [if_neg e1]
      by_cases e2 : i = b
      · subst e2
        rw [if_pos rfl]
        have := h0 a i ha hi hab
        rw [he] at this
        rw [h1, h2]
        exact this
      · rw [if_neg e2]
        exact h0 a b ha hb hab

theorem Facts.drew {L : List Fact} {w : World} (h : Facts L w) : Facts L w.drew :=
  ⟨fun F hF => let ⟨a, b, c⟩ := h.1 F hF; ⟨F.keep w w.drew ⟨rfl, rfl, rfl, Nat.le_refl _, fun _ _ _ => rfl⟩ a, b, c⟩, h.2⟩
theorem Facts.perm {L L' : List Fact} {w : World} (h : Facts L w) (hp : L.Perm L') : Facts L' w :=
  ⟨fun F hF => h.1 F (hp.mem_iff.2 hF), (List.Perm.pairwise_iff (fun hxy => hxy.symm) hp).1 h.2⟩
/-- the second to the front -/
theorem Facts.swap {L : List Fact} {F G : Fact} {w : World} (h : Facts (F :: G :: L) w) : Facts (G :: F :: L) w := h.perm (List.Perm.swap _ _ _)
theorem Facts.bring3 {L : List Fact} {F G H : Fact} {w : World} (h : Facts (F :: G :: H :: L) w) : Facts (H :: F :: G :: L) w := h.perm (((List.Perm.swap _ _ _).cons _).trans (List.Perm.swap _ _ _))
theorem Facts.tail {L : List Fact} {F : Fact} {w : World} (h : Facts (F :: L) w) : Facts L w := ⟨fun G hG => h.1 G (List.mem_cons_of_mem _ hG), (List.pairwise_cons.1 h.2).2⟩
theorem Facts.drop2 {L : List Fact} {F G : Fact} {w : World} (h : Facts (F :: G :: L) w) : Facts (F :: L) w := h.swap.tail

theorem Facts.drop3 {L : List Fact} {F G H : Fact} {w : World} (h : Facts (F :: G :: H :: L) w) : Facts (F :: G :: L) w := h.bring3.tail

theorem boxF_cells {b : Nat} {cs : Array Value} {t : TypeId} {w : World} (h : (Fact.box b cs t).P w) : ∀ i, w.cell? ⟨b, i, none⟩ = cs[i]? := fun i => by
  have h' : w.heap[b]? = some (.cells cs t (0, 0)) := h
  simp [World.cell?, h']
theorem boxF_free {b : Nat} {cs : Array Value} {t : TypeId} {w : World} (h : (Fact.box b cs t).P w) : ∀ i, w.frozen? ⟨b, i, none⟩ = false := fun i => by
  have h' : w.heap[b]? = some (.cells cs t (0, 0)) := h
  simp [World.frozen?, h']
theorem boxF_new (w : World) (cs : Array Value) (t : TypeId) : (Fact.box w.heap.size cs t).P (w.alloc (.cells cs t (0, 0))) := Array.getElem?_push_size
/-- a box is made -/
theorem Facts.box {L : List Fact} {w : World} (h : Facts L w) (cs : Array Value) (t : TypeId) : Facts (Fact.box w.heap.size cs t :: L) (w.alloc (.cells cs t (0, 0))) :=
  h.add (ba1 _ _) _ (Nat.le_refl _) (Nat.le_succ _) (by simp [Fact.hi]) (boxF_new _ _ _)

/-- a box is stored into -/
theorem Facts.store {L : List Fact} {w : World} (h : Facts L w) (i : Nat) {b : Nat} {cs : Array Value} {t : TypeId} (hF : L[i]? = some (Fact.box b cs t)) (j : Nat) (v : Value) : Facts (L.set i (Fact.box b (cs.setIfInBounds j v) t)) (w.setCell ⟨b, j, none⟩ v) := by
  have hp : w.heap[b]? = some (.cells cs t (0, 0)) := h.get i hF
  have hg : w.grownBy (w.setCell ⟨b, j, none⟩ v) (some b) := ⟨rfl, rfl, rfl, by simp, fun k _ hk => heap_setCell_other w ⟨b, j, none⟩ k v (fun e => hk (by simp [e]))⟩
  refine h.turn i hF hg (fun k hk => ?_) (Fact.box b (cs.setIfInBounds j v) t) rfl rfl ?_
  · cases hk; exact ⟨Nat.le_refl _, Nat.lt_succ_self _⟩
  · show (w.setCell ⟨b, j, none⟩ v).heap[b]? = _
    rw [setCell_eq_setRow w b j cs t (0, 0) v hp]
    exact setRow_heap w b _ _ t _ hp

theorem Facts.start (w : World) : Facts [Fact.below w] w := ⟨fun F hF => by
  rw [List.mem_singleton] at hF
  subst hF
  exact ⟨Below.refl _ _, Nat.zero_le _, Nat.le_refl _⟩, List.pairwise_singleton _ _⟩

theorem ownF_ints {lo hi : Nat} {a : Option Addr} {n c : Nat} {zs : List Int} {w : World} (h : (Fact.own lo hi (.slice a n c) zs).P w) : IntsAt w a zs := by
  obtain ⟨a', c', e, hx⟩ := (show OwnI w lo (.slice a n c) zs ∧ _ from h).1.read
  obtain ⟨rfl, _, _⟩ := Value.slice.inj e
  exact hx
/-- a slice that a call has made -/
theorem Facts.own {L : List Fact} {w w' : World} (h : Facts L w) (hb : Below w.heap.size w w') {v : Value} {zs : List Int} (ho : OwnI w' w.heap.size v zs) : Facts (Fact.own w.heap.size w'.heap.size v zs :: L) w' :=
  h.add hb _ (Nat.le_refl _) hb.size (Nat.le_refl _) ⟨ho, fun k hk => (World.ownsRow.lt ho k hk).2⟩
/-- a slice's cells are written over -/
theorem Facts.turnOwn {L : List Fact} {w w' : World} (h : Facts L w) (i : Nat) {lo hi : Nat} {v : Value} {zs zs' : List Int} (hF : L[i]? = some (Fact.own lo hi v zs)) (hg : w.grownBy w' v.ownBlock) (ho : OwnI w' lo v zs') : Facts (L.set i (Fact.own lo hi v zs')) w' := by
  have hp := h.get i hF
  exact h.turn i hF hg (fun k hk => ⟨(World.ownsRow.lt ho k hk).1, hp.2 k hk⟩) (Fact.own lo hi v zs') rfl rfl ⟨ho, hp.2⟩

end Go.Proofs.YtlcglclojlffgaaGreat
namespace Go.Proofs.YtlcglclojlffgaaGreat
open Go.RowKit

/-- after j rounds of a copy -/
def Copied (w : World) (base g : Nat) (xs : List Int) (j : Nat) : Prop :=
  ∃ zs : List Int, zs.length = xs.length ∧ OwnI w base (.slice (some ⟨g, 0, none⟩) xs.length xs.length) zs ∧ zs.take j = xs.take j

theorem Copied.step {w : World} {base g : Nat} {xs : List Int} {j : Nat} {x : Int} (h : Copied w base g xs j) (hx : xs[j]? = some x) : Copied (w.setCell ⟨g, j, none⟩ (.int .i64 x)) base g xs (j + 1) := by
  obtain ⟨zs, hl, ho, ht⟩ := h
  have hj : j < xs.length := (List.getElem?_eq_some_iff.1 hx).1
  refine ⟨zs.set j x, by simpa using hl, (ho.stored hl.symm j x).1, ?_⟩
  rw [take_snoc' hx, take_snoc' (zs := zs.set j x) (k := j) (z := x) (by simp [hl, hj]), List.take_set_of_le (Nat.le_refl _), ht]

theorem Copied.fin {w : World} {base g : Nat} {xs : List Int} (h : Copied w base g xs xs.length) : OwnI w base (.slice (some ⟨g, 0, none⟩) xs.length xs.length) xs := by
  obtain ⟨zs, hl, ho, ht⟩ := h
  rw [List.take_of_length_le (by omega), List.take_of_length_le (by omega)] at ht
  rwa [ht] at ho

set_option maxHeartbeats 400000 in
theorem toInt64S_any (a : Option Addr) (xs : List Int) (c : Nat) (w : World) (hx : IntsAt w a xs) (lx : xs.length ≤ 1099511627776) :
    Calls Tryz.prog 17 #[.slice a xs.length c] w fun e w' => e = .returned (.slice (some ⟨w.heap.size, 0, none⟩) xs.length xs.length) ∧
      OwnI w' w.heap.size (.slice (some ⟨w.heap.size, 0, none⟩) xs.length xs.length) xs ∧ Below w.heap.size w w' := by
  obtain ⟨i0, hi, hz0, hz1, hz2⟩ := info_parts infoI
  go_enter Tryz.func17, Tryz.ntmps17
  go_wp2_with (at_make; refine wpList_make_full _ rfl _ _ 24 rfl w.heap.size 2 i0 (.int .i64 0) 1 Tryz.underlying24 hi hz0 hz1 _ _ _ _ xs.length rfl rfl rfl rfl ?c1 ?c2 ?c3 ?_)
  case c1 => rw [hz2]; omega
  case c2 => unfold maxLen; omega
  case c3 => omega
  intro w1 hown hg
  have H0 : Hid (Copied w1 w.heap.size w.heap.size xs 0) := ⟨List.replicate xs.length 0, by simp, OwnI.of_made hown, by simp⟩
  have hb1 : Below w.heap.size w w1 := below_of_grownBy hg (Nat.le_refl _) (fun k h => by cases h)
  have HB := Lib.hid hb1
  clear hown hg hb1 hi hz0 hz1 hz2
  go_wp2
  go_loopw [4] (fun i wr => ∃ k : Nat, k ≤ xs.length ∧ i = .int .i64 k ∧ Copied wr w.heap.size w.heap.size xs k ∧ Below w.heap.size w wr) (fun i _ => xs.length - (intOf i).toNat)
  case atStart => exact ⟨0, Nat.zero_le _, rfl, H0.out, HB.out⟩
  case round =>
    obtain ⟨k, hk, rfl, hcp, hb⟩ := hrel
    have HC := Lib.hid hcp
    have HBr := Lib.hid hb
    clear hcp hb
    by_cases hlt : k < xs.length
    · obtain ⟨b1, o1, x, rfl, hxk, hb1, hc1⟩ := hx.at hlt
      have hc2 := (HBr.out.cell (p := ⟨b1, o1 + k, none⟩) hb1).trans hc1
      obtain ⟨z, hz, hf⟩ : ∃ z, wr.cell? ⟨w.heap.size, k, none⟩ = some (.int .i64 z) ∧ wr.frozen? ⟨w.heap.size, k, none⟩ = false := by
        obtain ⟨zs, hl, ho, _⟩ := HC.out
        obtain ⟨z, _, h1, h2⟩ := ho.cellAt hl.symm (k := k) (by omega)
        exact ⟨z, h1, h2⟩
      have HX := Lib.hid hxk
      clear hxk hx hc1
      go_wp2
      go_roundw
      case rel => exact ⟨k + 1, by omega, by go_num, HC.out.step HX.out, HBr.out.setCell (Nat.le_refl _) _⟩
      case measure => simp [intOf]; omega
    · clear hx
      obtain rfl : k = xs.length := by omega
      go_wp2
      go_ret
      exact ⟨rfl, HC.out.fin, HBr.out⟩

end Go.Proofs.YtlcglclojlffgaaGreat
namespace Go.Proofs.YtlcglclojlffgaaGreat
open Go.RowKit

theorem marks_of {k : Int} {zs : List Int} (h : ∀ i, i < zs.length → zs[i]? = some (k + i)) : zs = marks k zs.length := by
  apply List.ext_getElem?
  intro i
  by_cases hi : i < zs.length
  · rw [h i hi, marks_at hi]
  · rw [List.getElem?_eq_none (by omega), List.getElem?_eq_none (by rw [marks_len]; omega)]

/-- after j rounds -/
def Marked (w0 w : World) (base : Nat) (v : Value) (n j : Nat) (m : Int) : Prop :=
  ∃ zs : List Int, zs.length = n ∧ OwnI w base v zs ∧ (∀ i, i < j → zs[i]? = some (m + i)) ∧ w0.grownBy w v.ownBlock ∧ w.heap.size = w0.heap.size

theorem Marked.step {w0 w : World} {base g n c j : Nat} {m : Int} (h : Marked w0 w base (.slice (some ⟨g, 0, none⟩) n c) n j m) (hj : j < n) :
    Marked w0 (w.setCell ⟨g, j, none⟩ (.int .i64 (m + j))) base (.slice (some ⟨g, 0, none⟩) n c) n (j + 1) m := by
  obtain ⟨zs, hl, ho, hz, hg, hs⟩ := h
  subst hl
  have hst := World.ownsRow.stored (h := ho) j (.int .i64 (m + j))
  refine ⟨zs.set j (m + j), by simp, ?_, ?_, grownBy_trans hg hst.2, by simpa using hs⟩
  · have h1 := hst.1
    unfold OwnI
    rw [List.map_set, List.length_set]
    exact h1
  · intro i hi
    rw [List.getElem?_set]
    by_cases e : j = i
    · subst e; simp [hj]
    · rw [if_neg e]; exact hz i (by omega)

theorem Marked.fin {w0 w : World} {base : Nat} {v : Value} {n : Nat} {m : Int} (h : Marked w0 w base v n n m) :
    OwnI w base v (marks m n) ∧ w0.grownBy w v.ownBlock := by
  obtain ⟨zs, hl, ho, hz, hg, _⟩ := h
  subst hl
  rw [← marks_of hz]
  exact ⟨ho, hg⟩

theorem Marked.cell {w0 w : World} {base : Nat} {a : Option Addr} {c n j : Nat} {m : Int} (h : Marked w0 w base (.slice a n c) n j m) (hj : j < n) :
    ∃ g z, a = some ⟨g, 0, none⟩ ∧ base ≤ g ∧ w.cell? ⟨g, j, none⟩ = some (.int .i64 z) ∧ w.frozen? ⟨g, j, none⟩ = false := by
  obtain ⟨zs, hl, ho, hz, hg, _⟩ := h
  subst hl
  obtain ⟨g, rfl, hb, _, _⟩ := ho.block (by omega)
  obtain ⟨z, _, h1, h2⟩ := ho.cellAt rfl hj
  exact ⟨g, z, rfl, hb, h1, h2⟩

set_option maxHeartbeats 400000 in
theorem markInt64S_any (a : Option Addr) (xs : List Int) (c base : Nat) (m : Int) (w : World) (ho : OwnI w base (.slice a xs.length c) xs)
    (lx : xs.length ≤ 1099511627776) (hm0 : 0 ≤ m) (hm : m ≤ 1099511627776) :
    Calls Tryz.prog 11 #[.slice a xs.length c, .int .i64 m] w fun e w' => e = .returned (.int .i64 (m + xs.length)) ∧ OwnI w' base (.slice a xs.length c) (marks m xs.length) ∧ w.grownBy w' (Value.ownBlock (.slice a xs.length c)) := by
  have h0 : Marked w w base (.slice a xs.length c) xs.length 0 m := ⟨xs, rfl, ho, fun i hi => absurd hi (by omega), World.grownBy.refl _ _, rfl⟩
  clear ho
  have H0 := Lib.hid h0
  clear h0
  go_enter Tryz.func11, Tryz.ntmps11
  go_wp2
  go_loopw [1, 5] (fun q i wr => ∃ k : Nat, k ≤ xs.length ∧ i = .int .i64 k ∧ q = .int .i64 (m + k) ∧ Marked w wr base (.slice a xs.length c) xs.length k m) (fun _ i _ => xs.length - (intOf i).toNat)
  case atStart => exact ⟨0, Nat.zero_le _, rfl, by simp, H0.out⟩
  case round =>
    obtain ⟨k, hk, rfl, rfl, ht⟩ := hrel
    have HT := Lib.hid ht
    clear ht
    by_cases hlt : k < xs.length
    · obtain ⟨g, z, rfl, hb1, hc1, hf1⟩ := HT.out.cell hlt
      go_wp2
      go_roundw
      case rel => exact ⟨k + 1, by omega, by go_num, by go_num, HT.out.step hlt⟩
      case measure => simp [intOf]; omega
    · go_wp2
      go_ret
      obtain rfl : k = xs.length := by omega
      exact ⟨rfl, HT.out.fin⟩

end Go.Proofs.YtlcglclojlffgaaGreat
namespace Go.Proofs.YtlcglclojlffgaaGreat
open Go.RowKit

/-- what is left of a bound -/
def leftOf (l : Int) (n : Nat) : Int := if l - n < 0 then -1 else l - n

set_option maxHeartbeats 400000 in
theorem szInt64S_any (a : Option Addr) (n c : Nat) (l : Int) (w : World) (hn : n ≤ maxLen) (h0 : -1 ≤ l) (hl : l ≤ 1099511627776) :
    Calls Tryz.prog 13 #[.slice a n c, .int .i64 l] w fun e w' => e = .returned (.int .i64 (leftOf l n)) ∧ w = w' := by
  unfold maxLen at hn
  by_cases h : l - n < 0
  · have e : leftOf l n = -1 := by rw [leftOf, if_pos h]
    have E := Lib.hid e
    clear e
    go_enter Tryz.func13, Tryz.ntmps13
    go_wp2
    go_ret
    exact ⟨ret_int E.out.symm, rfl⟩
  · have e : leftOf l n = l - n := by rw [leftOf, if_neg h]
    have E := Lib.hid e
    clear e
    go_enter Tryz.func13, Tryz.ntmps13
    go_wp2
    go_ret
    exact ⟨ret_int E.out.symm, rfl⟩

end Go.Proofs.YtlcglclojlffgaaGreat
namespace Go.Proofs.YtlcglclojlffgaaGreat
open Go.RowKit

theorem eq_of_take {α : Type} {xs ys : List α} {k : Nat} (h : xs.take k = ys.take k) (hl : xs.length = ys.length) (hk : xs.length ≤ k) : xs = ys := by
  rwa [List.take_of_length_le hk, List.take_of_length_le (by omega)] at h

theorem ne_of_at {α : Type} {xs ys : List α} {k : Nat} {x y : α} (hx : xs[k]? = some x) (hy : ys[k]? = some y) (h : x ≠ y) : xs ≠ ys := by
  intro e; subst e; rw [hx] at hy; exact h (Option.some.inj hy)

set_option maxHeartbeats 400000 in
theorem eqInt64S_any (a b : Option Addr) (xs ys : List Int) (c d : Nat) (w : World) (hx : IntsAt w a xs) (hy : IntsAt w b ys)
    (lx : xs.length ≤ maxLen) (_ly : ys.length ≤ maxLen) :
    Calls Tryz.prog 8 #[.slice a xs.length c, .slice b ys.length d] w fun e w' => e = .returned (.bool (decide (xs = ys))) ∧ ∃ n, w' = w.drewN n := by
  unfold maxLen at lx
  by_cases hl : xs.length = ys.length
  · have hl' : (((xs.length : Nat) : Int) != ((ys.length : Nat) : Int)) = false := by simp [hl]
    go_enter Tryz.func8, Tryz.ntmps8
    go_wp2
    go_loopw [5] (fun i wr => ∃ k n : Nat, k ≤ xs.length ∧ i = .int .i64 k ∧ xs.take k = ys.take k ∧ wr = w.drewN n) (fun i _ => xs.length - (intOf i).toNat)
    case atStart => exact ⟨0, 0, Nat.zero_le _, rfl, rfl, rfl⟩
    case round =>
      obtain ⟨k, n, hk, rfl, ht, rfl⟩ := hrel
      have HL := Lib.hid hl
      have HT := Lib.hid ht
      clear hl ht
      by_cases hlt : k < xs.length
      · obtain ⟨b1, o1, x, rfl, hxk, hb1, hc1⟩ := hx.at hlt
        obtain ⟨b2, o2, y, rfl, hyk, hb2, hc2⟩ := hy.at (k := k) (by rw [← HL.out]; exact hlt)
        have HX := Lib.hid hxk
        have HY := Lib.hid hyk
        have hlt2 : (k : Int) < (ys.length : Int) := by rw [← HL.out]; omega
        clear hxk hyk hx hy
        by_cases hxy : x = y
        · have hxy' : (x != y) = false := by simp [hxy]
          have HE := Lib.hid hxy
          clear hxy
          go_wp2_with fail
          go_quiet (fail)
          go_wp2
          go_roundw
          case rel => exact ⟨k + 1, _, by omega, by go_num, by rw [take_snoc' HX.out, take_snoc' HY.out, HT.out, HE.out], rfl⟩
          case measure => simp [intOf]; omega
        · have hxy' : (x != y) = true := by simp [hxy]
          have HE := Lib.hid hxy
          clear hxy
          go_wp2_with fail
          go_quiet (fail)
          go_wp2
          go_ret
          exact ⟨ret_bool (by simp [ne_of_at HX.out HY.out HE.out]), _, World.drewN_drewN _ _ _⟩
      · clear hx hy
        go_wp2
        go_ret
        exact ⟨ret_bool (by simp [eq_of_take HT.out HL.out (by omega)]), _, rfl⟩
  · have hl' : (((xs.length : Nat) : Int) != ((ys.length : Nat) : Int)) = true := by simp; omega
    have hne : xs ≠ ys := fun e => hl (by rw [e])
    have HE := Lib.hid hne
    clear hne hl hx hy
    go_enter Tryz.func8, Tryz.ntmps8
    go_wp2
    go_ret
    exact ⟨ret_bool (by simp [HE.out]), 0, rfl⟩

end Go.Proofs.YtlcglclojlffgaaGreat
namespace Go.Proofs.YtlcglclojlffgaaGreat
open Go.RowKit

/-- a raster of the call's own is handed back -/
def RetRasL (w : World) (x1 x2 : Int) (xs : List Int) (e : Ending) (w' : World) : Prop :=
  ∃ a c, e = .returned (.agg #[.int .i64 x1, .int .i64 x2, .slice a xs.length c]) ∧ OwnI w' w.heap.size (.slice a xs.length c) xs ∧ Below w.heap.size w w'

/-- two rasters -/
def eqRasB (x1 x2 : Int) (xs : List Int) (y1 y2 : Int) (ys : List Int) : Bool := x1 == y1 && x2 == y2 && decide (xs = ys)
/-! The calls of a law on rasters, said in facts. -/
/-! Damages by value. -/
end Go.Proofs.YtlcglclojlffgaaGreat
namespace Go.Proofs.YtlcglclojlffgaaGreat
open Go.RowKit

/-- a row of zeros whose first k cells are laid -/
def bvL (v : Int) (N k : Nat) : List Int := List.replicate k v ++ List.replicate (N - k) 0
theorem bvL_zero (v : Int) (N : Nat) : bvL v N 0 = List.replicate N 0 := by simp [bvL]
theorem bvL_all (v : Int) (N : Nat) : bvL v N N = List.replicate N v := by simp [bvL]
theorem bvL_len (v : Int) {N k : Nat} (h : k ≤ N) : (bvL v N k).length = N := by simp [bvL]; omega
theorem bvL_set (v : Int) {N k : Nat} (h : k < N) : (bvL v N k).set k v = bvL v N (k + 1) := by
  obtain ⟨j, hj⟩ : ∃ j, N - k = j + 1 := ⟨N - k - 1, by omega⟩
  rw [bvL, bvL, hj, show N - (k + 1) = j by omega, List.set_append_right _ _ (by simp), List.length_replicate, Nat.sub_self, List.replicate_succ, List.set_cons_zero, List.replicate_succ', List.append_assoc]
  rfl
/-- while a grid of one value is laid -/
def StBv (v : Int) (k : Nat) (W wr : World) (n m N BG : Nat) : Prop := W.heap.size + 1 < BG ∧ OwnI wr (W.heap.size + 1) (.slice (some ⟨W.heap.size + 1, 0, none⟩) N N) (bvL v N k) ∧ wr.heap[BG]? = some (.cells #[.int .i64 (n : Int), .int .i64 (m : Int), .slice (some ⟨W.heap.size + 1, 0, none⟩) N N] 144 (0, 0)) ∧ wr.heap[W.heap.size]? = some (.cells #[.int .i64 0, .int .i64 0, .slice none 0 0] 144 (0, 0)) ∧ Below W.heap.size W wr
set_option maxRecDepth 100000 in
set_option maxHeartbeats 1000000 in
theorem blankV_any (v : Int) (n m N : Nat) (W : World) (hNN : N = n * m) (hN : N ≤ 40000) (_hn : n ≤ 40000) (_hm : m ≤ 40000) :
    Calls Tryz.prog 141 #[.int .i64 (n : Int), .int .i64 (m : Int), .int .i64 v] W (RetRasL W n m (List.replicate N v)) := by
  have hnm : (n : Int) * (m : Int) = (N : Int) := by rw [hNN]; simp
  have hw : IntKind.i64.wrap (N : Int) = N := IntWalk.i64_in _ (by omega)
  have hw6 : wrap64 (N : Int) = N := IntWalk.wrap64_in _ (by omega)
  obtain ⟨i0, hi, hz0, hz1, hz2⟩ := info_parts infoI
  clear hNN
  go_enter Tryz.func141, Tryz.ntmps141
  go_wp2_with (at_make; refine wpList_make_full _ rfl _ _ 24 rfl (W.heap.size + 1) 2 i0 (.int .i64 0) 1 Tryz.underlying24 hi hz0 hz1 _ _ _ _ N rfl rfl rfl rfl ?c1 ?c2 ?c3 ?_)
  case c1 => rw [hz2]; omega
  case c2 => unfold maxLen; omega
  case c3 => simp
  intro w1 hown hg
  have ho := OwnI.of_made hown
  have hbW := (ba1 W (.cells #[.int .i64 0, .int .i64 0, .slice none 0 0] 144 (0, 0))).trans (below_of_grownBy hg (B := W.heap.size) (by simp) (fun k h => by cases h))
  have hR1 : w1.heap[W.heap.size]? = some (.cells #[.int .i64 0, .int .i64 0, .slice none 0 0] 144 (0, 0)) := (hg.block _ (by simp) (by simp)).trans (push_at _ _)
  have hWw : W.heap.size + 1 < w1.heap.size := by
    rcases ho.2 with ⟨h, _⟩ | ⟨g, cap, cur, h, hb, hgg, _⟩
    · cases h
    · simp only [Value.slice.injEq, Option.some.injEq, Addr.mk.injEq, and_true] at h
      obtain ⟨rfl, _⟩ := h
      exact blkLt hgg
  obtain ⟨BG, hBG⟩ : ∃ BG, w1.heap.size = BG := ⟨_, rfl⟩
  have H0 : Hid (StBv v 0 W (w1.alloc (.cells #[.int .i64 (n : Int), .int .i64 (m : Int), .slice (some ⟨W.heap.size + 1, 0, none⟩) N N] 144 (0, 0))) n m N BG) := Lib.hid ⟨by omega, by rw [bvL_zero]; exact ho.grown (ba1 _ _), by rw [← hBG]; exact push_at _ _, push_old hR1, bt0 hbW (ba1 _ _) (by simp)⟩
  clear hown hg ho hbW hR1 hi hz0 hz1 hz2
  go_wp2_with fail
  go_loopw [19] (fun i wr => ∃ k : Nat, k ≤ N ∧ i = .int .i64 k ∧ StBv v k W wr n m N BG) (fun i _ => N - (intOf i).toNat)
  case atStart => exact ⟨0, Nat.zero_le _, rfl, H0.out⟩
  case round =>
    clear H0
    obtain ⟨k, hk, rfl, hBB, ho, hg, hr, hb⟩ := hrel
    have hc := (heap_cellR hg).1
    have hwg := blkLt hg
    by_cases hlt : k < N
    · obtain ⟨z, hz, hcz, hfz⟩ := ho.cellAt (by rw [bvL_len v hk]) (k := k) (by rw [bvL_len v hk]; exact hlt)
      have hkN : (k : Int) < (N : Int) := by omega
      have HS := Lib.hid (ho.stored (by rw [bvL_len v hk]) k v)
      have HG := Lib.hid hg
      have HR := Lib.hid hr
      have HB := Lib.hid hb
      clear ho hg hr hb hz
      go_wp2_with fail
      obtain ⟨h1, h2⟩ := HS.out
      rw [bvL_set v hlt] at h1
      exact ⟨⟨k + 1, by omega, by go_num, hBB, h1, (h2.block _ hwg (fun e => by have := Option.some.inj e; omega)).trans HG.out, (h2.block _ (blkLt HR.out) (fun e => by have := Option.some.inj e; omega)).trans HR.out, HB.out.trans (below_of_grownBy h2 HB.out.size (fun k e => by have := Option.some.inj e; omega))⟩, by simp [intOf]; omega⟩
    · rw [show k = N by omega, bvL_all] at ho
      obtain ⟨hcr, hfr⟩ := heap_cellR hr
      have hwr := blkLt hr
      have HO := Lib.hid ho
      have HB := Lib.hid hb
      clear ho hg hr hb
      go_wp2_with fail
      refine bodyPost_ret (v := .agg #[.int .i64 (n : Int), .int .i64 (m : Int), .slice (some ⟨W.heap.size + 1, 0, none⟩) N N]) (by simp [results, Tryz.results141, go_sem, hcr]) rfl ⟨some ⟨W.heap.size + 1, 0, none⟩, N, by rw [List.length_replicate], ?_, ?_⟩
      · rw [List.length_replicate]
        refine OwnI.weak (base := W.heap.size + 1) ?_ (by omega)
        iterate 3 (refine OwnI.setOld ?_ (by dsimp only; omega) _)
        exact HO.out
      · iterate 3 (refine Below.setCell ?_ (by dsimp only; omega) _)
        exact HB.out

set_option maxHeartbeats 1000000 in
theorem patterns_any (w : World) :
    Calls Tryz.prog 142 #[] w fun e w' => e = .returned (.slice (some ⟨w.heap.size, 0, none⟩) 4 4) ∧ w' = w.alloc (.cells #[.func (.func 144) #[] #[], .func (.func 147) #[] #[], .func (.func 149) #[] #[], .func (.func 150) #[] #[], .func (.func 151) #[] #[], .func (.func 152) #[] #[], .func (.func 153) #[] #[], .func (.func 154) #[] #[]] 177 (0, 0)) := by
  go_enter Tryz.func142, Tryz.ntmps142
  go_wp2_with fail
  go_ret
  exact ⟨rfl, rfl⟩
set_option maxHeartbeats 1000000 in
theorem gridSet_any (n r c m : Nat) (N cp : Nat) (g : Nat) (zs : List Int) (x : Int) (base : Nat) (w : World) (hN : zs.length = N) (hi : r * m + c < N) (hl : N ≤ 40000) (ho : OwnI w base (.slice (some ⟨g, 0, none⟩) N cp) zs) :
    Calls Tryz.prog 143 #[.agg #[.int .i64 n, .int .i64 m, .slice (some ⟨g, 0, none⟩) N cp], .agg #[.int .i64 r, .int .i64 c], .int .i64 x] w fun e w' => e = .returned (.tuple #[]) ∧ OwnI w' base (.slice (some ⟨g, 0, none⟩) N cp) (zs.set (r * m + c) x) ∧ w.grownBy w' (some g) := by
  have hg := ho.hi g rfl
  obtain ⟨z, hz, hcz, hfz⟩ := ho.cellAt hN.symm (k := r * m + c) (by omega)
  obtain ⟨i, hi'⟩ : ∃ i, i = r * m + c := ⟨_, rfl⟩
  have hrm : (r : Int) * (m : Int) + (c : Int) = (i : Int) := by rw [hi']; push_cast; rfl
  obtain ⟨p, hp⟩ : ∃ p, p = r * m := ⟨_, rfl⟩
  have hrm2 : (r : Int) * (m : Int) = (p : Int) := by rw [hp]; push_cast; rfl
  have hpc : (p : Int) + (c : Int) = (i : Int) := by rw [hi', hp]; push_cast; rfl
  have hpb : p ≤ 40000 := by omega
  rw [← hi'] at hi hcz hfz ⊢
  have HO := Lib.hid ho
  clear ho hz hi' hp hrm
  go_enter Tryz.func143, Tryz.ntmps143
  go_wp2_with fail
  have h1 := HO.out.stored hN.symm i x
  exact bodyPost_end (results_none rfl _ _ _) rfl ⟨rfl, h1.1.grown (ba2 _ _ _), grownBy_trans h1.2 (grownBy_trans (World.grownBy_alloc _ _ _) (World.grownBy_alloc _ _ _))⟩

/-- the program's fixed cells, the first k laid -/
def fxL (n : Nat) (k : Nat) : List Int := (List.range k).map (fun i => fixI n ((i / n : Nat) : Int) ((i % n : Nat) : Int)) ++ List.replicate (n * n - k) (-1)
theorem fxL_zero (n : Nat) : fxL n 0 = List.replicate (n * n) (-1) := by simp [fxL]
theorem fxL_len {n k : Nat} (h : k ≤ n * n) : (fxL n k).length = n * n := by simp [fxL]; omega
theorem fxL_set {n k : Nat} (h : k < n * n) : (fxL n k).set k (fixI n ((k / n : Nat) : Int) ((k % n : Nat) : Int)) = fxL n (k + 1) := by
  obtain ⟨j, hj⟩ : ∃ j, n * n - k = j + 1 := ⟨n * n - k - 1, by omega⟩
  rw [fxL, fxL, hj, show n * n - (k + 1) = j by omega, List.set_append_right _ _ (by simp), List.length_map, List.length_range, Nat.sub_self, List.replicate_succ, List.set_cons_zero, List.range_succ, List.map_append, List.append_assoc]
  rfl
theorem fxL_same {n k : Nat} (h : k < n * n) (hf : fixI n ((k / n : Nat) : Int) ((k % n : Nat) : Int) = -1) : fxL n k = fxL n (k + 1) := by
  obtain ⟨j, hj⟩ : ∃ j, n * n - k = j + 1 := ⟨n * n - k - 1, by omega⟩
  rw [fxL, fxL, hj, show n * n - (k + 1) = j by omega, List.range_succ, List.map_append, List.map_singleton, hf, List.replicate_succ, List.append_assoc]
  rfl

end Go.Proofs.YtlcglclojlffgaaGreat
namespace Go.Proofs.YtlcglclojlffgaaGreat
open Go.RowKit

theorem fixI_case (n r c : Int) : (inF n r c = true ∧ fixI n r c = findI (r - midI n r) (c - midI n c)) ∨ (inF n r c = false ∧ decide (r = 6 ∧ 8 ≤ c ∧ c ≤ n - 9) = true ∧ fixI n r c = 1 - c % 2) ∨
    (inF n r c = false ∧ decide (r = 6 ∧ 8 ≤ c ∧ c ≤ n - 9) = false ∧ decide (c = 6 ∧ 8 ≤ r ∧ r ≤ n - 9) = true ∧ fixI n r c = 1 - r % 2) ∨
    (inF n r c = false ∧ decide (r = 6 ∧ 8 ≤ c ∧ c ≤ n - 9) = false ∧ decide (c = 6 ∧ 8 ≤ r ∧ r ≤ n - 9) = false ∧ decide (r = n - 8 ∧ c = 8) = true ∧ fixI n r c = 1) ∨
    (inF n r c = false ∧ decide (r = 6 ∧ 8 ≤ c ∧ c ≤ n - 9) = false ∧ decide (c = 6 ∧ 8 ≤ r ∧ r ≤ n - 9) = false ∧ decide (r = n - 8 ∧ c = 8) = false ∧ fixI n r c = -1) := by
  unfold fixI
  cases inF n r c
  · by_cases h1 : r = 6 ∧ 8 ≤ c ∧ c ≤ n - 9
    · right; left; exact ⟨rfl, decide_eq_true h1, by rw [if_neg (by decide), if_pos h1]⟩
    · by_cases h2 : c = 6 ∧ 8 ≤ r ∧ r ≤ n - 9
      · right; right; left; exact ⟨rfl, decide_eq_false h1, decide_eq_true h2, by rw [if_neg (by decide), if_neg h1, if_pos h2]⟩
      · by_cases h3 : r = n - 8 ∧ c = 8
        · right; right; right; left; exact ⟨rfl, decide_eq_false h1, decide_eq_false h2, decide_eq_true h3, by rw [if_neg (by decide), if_neg h1, if_neg h2, if_pos h3]⟩
        · right; right; right; right; exact ⟨rfl, decide_eq_false h1, decide_eq_false h2, decide_eq_false h3, by rw [if_neg (by decide), if_neg h1, if_neg h2, if_neg h3]⟩
  · left; exact ⟨rfl, by rw [if_pos rfl]⟩
/-- while the fixed cells are laid: result variable, grid, its variable, the kinds -/
structure StF (w wr : World) (n N cp g0 BG BP k : Nat) : Prop where
  g : w.heap.size < g0
  gb : g0 < BG
  bp : BG < BP
  own : OwnI wr (w.heap.size + 1) (.slice (some ⟨g0, 0, none⟩) N cp) (fxL n k)
  bg : wr.heap[BG]? = some (.cells #[.int .i64 n, .int .i64 n, .slice (some ⟨g0, 0, none⟩) N cp] 144 (0, 0))
  pat : wr.heap[BP]? = some (.cells #[.func (.func 144) #[] #[], .func (.func 147) #[] #[], .func (.func 149) #[] #[], .func (.func 150) #[] #[], .func (.func 151) #[] #[], .func (.func 152) #[] #[], .func (.func 153) #[] #[], .func (.func 154) #[] #[]] 177 (0, 0))
  res : wr.heap[w.heap.size]? = some (.cells #[.int .i64 0, .int .i64 0, .slice none 0 0] 144 (0, 0))
  below : Below w.heap.size w wr
theorem StF.grown {w wr w2 : World} {n N cp g0 BG BP k : Nat} (h : StF w wr n N cp g0 BG BP k) (hb : Below wr.heap.size wr w2) : StF w w2 n N cp g0 BG BP k :=
  ⟨h.g, h.gb, h.bp, h.own.grown hb, blkK hb h.bg, blkK hb h.pat, blkK hb h.res, bt0 h.below hb (Nat.le_refl _)⟩
theorem StF.set {w wr w2 : World} {n N cp g0 BG BP k k' : Nat} (h : StF w wr n N cp g0 BG BP k) (hg : wr.grownBy w2 (some g0)) (ho : OwnI w2 (w.heap.size + 1) (.slice (some ⟨g0, 0, none⟩) N cp) (fxL n k')) : StF w w2 n N cp g0 BG BP k' := by
  have h1 := h.g
  have h2 := h.gb
  have h3 := h.bp
  refine ⟨h.g, h.gb, h.bp, ho, (hg.block _ (blkLt h.bg) (fun e => by have := Option.some.inj e; omega)).trans h.bg, (hg.block _ (blkLt h.pat) (fun e => by have := Option.some.inj e; omega)).trans h.pat, (hg.block _ (blkLt h.res) (fun e => by have := Option.some.inj e; omega)).trans h.res, h.below.trans (below_of_grownBy hg h.below.size (fun k e => by have := Option.some.inj e; omega))⟩
theorem StF.same {w wr : World} {n N cp g0 BG BP k k' : Nat} (h : StF w wr n N cp g0 BG BP k) (e : fxL n k = fxL n k') : StF w wr n N cp g0 BG BP k' :=
  ⟨h.g, h.gb, h.bp, e ▸ h.own, h.bg, h.pat, h.res, h.below⟩
set_option maxRecDepth 100000 in
set_option maxHeartbeats 8000000 in
theorem fixed_any (n : Nat) (w : World) (hn : 17 ≤ n) (hn2 : n ≤ 41) :
    Calls Tryz.prog 138 #[.int .i64 n] w (RetRasL w n n (fxL n (n * n))) := by
  have hN := Nat.mul_le_mul hn2 hn2
  obtain ⟨N, hNe⟩ : ∃ N, N = n * n := ⟨_, rfl⟩
  have hN1 : 1 ≤ N := by have := Nat.mul_le_mul hn hn; omega
  rw [← hNe] at hN
  have HN := Lib.hid hNe
  clear hNe
  go_enter Tryz.func138, Tryz.ntmps138
  go_wp2_with fail
  refine (blankV_any (-1) n n N _ HN.out (by omega) (by omega) (by omega)).mono ?_
  rintro e w1 ⟨a1, cp, rfl, ho1, hb1⟩
  obtain ⟨g0, rfl, hg1, -, hg2⟩ := ho1.block (by rw [List.length_replicate]; exact hN1)
  rw [List.length_replicate] at ho1 ⊢
  have HO1 := Lib.hid (ho1.weak (show w.heap.size + 1 ≤ _ by simp))
  have HB1 := Lib.hid (bt1 hb1)
  have HRes := Lib.hid (blkK hb1 (push_at w (.cells #[.int .i64 0, .int .i64 0, .slice none 0 0] 144 (0, 0))))
  have hgw : w.heap.size < g0 := by simp at hg1; omega
  clear ho1 hb1 hg1
  go_wp2_with fail
  refine (patterns_any _).mono ?_
  rintro e w2 ⟨rfl, hw2⟩
  have HS0 := Lib.hid (show StF w w2 n N cp g0 w1.heap.size (w1.heap.size + 1) 0 by
    subst hw2
    have h2 := heap2 w1 (.cells #[.int .i64 n, .int .i64 n, .slice (some ⟨g0, 0, none⟩) N cp] 144 (0, 0)) (.cells #[.func (.func 144) #[] #[], .func (.func 147) #[] #[], .func (.func 149) #[] #[], .func (.func 150) #[] #[], .func (.func 151) #[] #[], .func (.func 152) #[] #[], .func (.func 153) #[] #[], .func (.func 154) #[] #[]] 177 (0, 0))
    refine ⟨hgw, hg2, by omega, ?_, h2.1, ?_, ?_, ?_⟩
    · rw [fxL_zero, ← HN.out]; exact HO1.out.grown (ba2 _ _ _)
    · exact h2.2
    · exact blkK (ba2 _ _ _) HRes.out
    · exact bt0 HB1.out (ba2 _ _ _) (Nat.le_refl _))
  clear hw2
  go_wp2_with fail
  obtain ⟨BG, hBG⟩ : ∃ BG, BG = w1.heap.size := ⟨_, rfl⟩
  rw [← hBG] at HS0 ⊢
  clear hBG HO1 HB1 HRes hgw hg2
  have hni : (17 : Int) ≤ (n : Int) ∧ (n : Int) ≤ 41 := by omega
  go_loopw [5, 6, 7, 9] (fun r _ _ _ wr => ∃ r' : Nat, r' ≤ n ∧ r = .int .i64 r' ∧ StF w wr n N cp g0 BG (BG + 1) (r' * n)) (fun r _ _ _ _ => n - (intOf r).toNat)
  case atStart => exact ⟨0, Nat.zero_le _, rfl, by rw [Nat.zero_mul]; exact HS0.out⟩
  case round =>
    obtain ⟨r', hr, rfl, hst⟩ := hrel
    have HST := Lib.hid hst
    have hbg := (heap_cellR hst.bg).1
    have hlb := blkLt hst.bg
    clear hst
    obtain ⟨wo, rfl⟩ : ∃ wo : World, wo = wr := ⟨_, rfl⟩
    by_cases hrl : r' < n
    · have hrn : (r' : Int) < (n : Int) := by omega
      go_wp2_with fail
      go_loopw [6, 7, 9] (fun c _ _ wr => ∃ c' : Nat, c' ≤ n ∧ c = .int .i64 c' ∧ StF w wr n N cp g0 BG (BG + 1) (r' * n + c')) (fun c _ _ _ => n - (intOf c).toNat)
      case atStart => exact ⟨0, Nat.zero_le _, rfl, HST.out⟩
      case round =>
        obtain ⟨c', hc, rfl, hst⟩ := hrel
        have HST2 := Lib.hid hst
        have hbg2 := (heap_cellR hst.bg).1
        have hlb2 := blkLt hst.bg
        clear hst hbg hlb
        by_cases hcl : c' < n
        · have hcn : (c' : Int) < (n : Int) := by omega
          have HK : Hid (r' * n + c' < N) := Lib.hid (by
            rw [HN.out]
            have h1 : (r' + 1) * n ≤ n * n := Nat.mul_le_mul_right _ hrl
            rw [Nat.add_mul, Nat.one_mul] at h1
            omega)
          have HDM : Hid ((r' * n + c') / n = r' ∧ (r' * n + c') % n = c') := Lib.hid ⟨by rw [Nat.mul_comm, Nat.mul_add_div (by omega), Nat.div_eq_of_lt hcl, Nat.add_zero], by rw [Nat.mul_comm, Nat.mul_add_mod, Nat.mod_eq_of_lt hcl]⟩
          have HCase := Lib.hid (fixI_case (n : Int) (r' : Int) (c' : Int))
          have HRC : Hid ((0 : Int) ≤ (r' : Int) ∧ (r' : Int) ≤ 41 ∧ (0 : Int) ≤ (c' : Int) ∧ (c' : Int) ≤ 41) := Lib.hid (by omega)
          obtain ⟨PB, hPB⟩ : ∃ PB, PB = wr.heap.size := ⟨_, rfl⟩
          obtain ⟨W', hW'⟩ : ∃ W', W' = wr.alloc (.cells #[.int .i64 r', .int .i64 c'] 168 (0, 0)) := ⟨_, rfl⟩
          have HST3 := Lib.hid (show StF w W' n N cp g0 BG (BG + 1) (r' * n + c') by rw [hW']; exact HST2.out.grown (ba1 _ _))
          have HPB := Lib.hid (show W'.heap[PB]? = some (.cells #[.int .i64 r', .int .i64 c'] 168 (0, 0)) by rw [hW', hPB]; exact push_at _ _)
          have HPW := Lib.hid hPB
          have HWW := Lib.hid hW'
          clear hPB hW'
          go_wp2_with fail
          rw [← HPW.out, ← HWW.out]
          clear HPW HWW hbg2 hlb2 HST2
          go_loopw [9, 29] (fun _ i wr => ∃ i' : Int, 0 ≤ i' ∧ i' ≤ 4 ∧ i = .int .i64 i' ∧ (0 < i' → inF (n : Int) (r' : Int) (c' : Int) = false) ∧ (1 < i' → decide ((r' : Int) = 6 ∧ 8 ≤ (c' : Int) ∧ (c' : Int) ≤ (n : Int) - 9) = false) ∧ (2 < i' → decide ((c' : Int) = 6 ∧ 8 ≤ (r' : Int) ∧ (r' : Int) ≤ (n : Int) - 9) = false) ∧ (3 < i' → decide ((r' : Int) = (n : Int) - 8 ∧ (c' : Int) = 8) = false) ∧ Below W'.heap.size W' wr) (fun _ i _ => (4 - intOf i).toNat)
          case atStart => exact ⟨0, by omega, by omega, rfl, fun h => by omega, fun h => by omega, fun h => by omega, fun h => by omega, Below.refl _ _⟩
          case round =>
            obtain ⟨i', hi0, hi4, rfl, h0, h1, h2, h3, hb⟩ := hrel
            have H0 := Lib.hid h0
            have H1 := Lib.hid h1
            have H2 := Lib.hid h2
            have H3 := Lib.hid h3
            have HB := Lib.hid hb
            have HST4 := Lib.hid (HST3.out.grown hb)
            have hpb := (heap_cellR (blkK hb HPB.out)).1
            have hlpb := blkLt (blkK hb HPB.out)
            have hpat := (heap_cellR HST4.out.pat).1
            have hlpat := blkLt HST4.out.pat
            have hbg := (heap_cellR HST4.out.bg).1
            have hlbg := blkLt HST4.out.bg
            clear h0 h1 h2 h3 hb
            rcases (show i' = 0 ∨ i' = 1 ∨ i' = 2 ∨ i' = 3 ∨ i' = 4 by omega) with rfl | rfl | rfl | rfl | rfl
            · rcases Bool.eq_false_or_eq_true (inF (n : Int) (r' : Int) (c' : Int)) with he | he
              · have HF : Hid (fixI (n : Int) (r' : Int) (c' : Int) = findI ((r' : Int) - midI n r') ((c' : Int) - midI n c')) := Lib.hid (by
                  rcases HCase.out with ⟨-, e⟩ | ⟨e, -⟩ | ⟨e, -⟩ | ⟨e, -⟩ | ⟨e, -⟩
                  · exact e
                  all_goals (rw [he] at e; cases e))
                go_wp2_with fail
                refine (pat1_any (n : Int) (r' : Int) (c' : Int) _ hni.1 hni.2 (by omega) (by omega) (by omega) (by omega)).mono ?_
                rw [he]
                rintro e w5 ⟨rfl, hb5⟩
                have HST5 := Lib.hid (HST4.out.grown (bt1 hb5))
                have HPB5 := Lib.hid (blkK (bt1 hb5) (blkK HB.out HPB.out))
                obtain ⟨KB, hKB⟩ : ∃ KB, KB = wr.heap.size := ⟨_, rfl⟩
                have HKB5 := Lib.hid (show w5.heap[KB]? = some (.cells #[.func (.func 144) #[] #[], .func (.func 147) #[] #[]] 177 (0, 0)) by rw [hKB]; exact blkK hb5 (push_at _ _))
                rw [← hKB]
                clear hb5 hKB hpb hlpb hpat hlpat hbg hlbg
                have hbg := (heap_cellR HST5.out.bg).1
                have hlbg := blkLt HST5.out.bg
                have hpb := (heap_cellR HPB5.out).1
                have hlpb := blkLt HPB5.out
                have hkb := (heap_cellR HKB5.out).1
                have hlkb := blkLt HKB5.out
                go_wp2_with fail
                refine wp_region_ext_tail 7 (by kernel_rfl) (by kernel_rfl) ?_
                simp only [List.take_succ_cons, List.take_zero, List.drop_succ_cons, List.drop_zero]
                repeat (go_big_quiet_step ((go_at_call 147; go_must (refine calls_ext _ (pat2_any (n : Int) (r' : Int) (c' : Int) _ hni.1 hni.2 HRC.out.1 HRC.out.2.1 HRC.out.2.2.1 HRC.out.2.2.2)))))
                refine wpQuiet_nil ?_
                rintro _ ⟨s, rfl⟩
                have HST6 := Lib.hid (HST5.out.grown s.below)
                clear hbg hlbg hpb hlpb hkb hlkb
                go_wp2_with fail
                refine (gridSet_any n r' c' n N cp g0 (fxL n (r' * n + c')) (findI ((r' : Int) - midI n r') ((c' : Int) - midI n c')) (w.heap.size + 1) _ (by rw [HN.out]; exact fxL_len (by rw [← HN.out]; exact Nat.le_of_lt HK.out)) HK.out (by omega) HST6.out.own).mono ?_
                rintro e w6 ⟨rfl, ho6, hg6⟩
                have HST7 := Lib.hid (show StF w w6 n N cp g0 BG (BG + 1) (r' * n + (c' + 1)) from HST6.out.set hg6 (by
                  have h := fxL_set (n := n) (k := r' * n + c') (by rw [← HN.out]; exact HK.out)
                  rw [HDM.out.1, HDM.out.2, HF.out] at h
                  rw [← Nat.add_assoc, ← h]
                  exact ho6))
                clear ho6 hg6
                go_wp2_with fail
                exact ⟨⟨c' + 1, by omega, by go_num, HST7.out⟩, by simp [intOf]; omega⟩
              · go_wp2_with fail
                refine (pat1_any (n : Int) (r' : Int) (c' : Int) _ hni.1 hni.2 (by omega) (by omega) (by omega) (by omega)).mono ?_
                rw [he]
                rintro e w5 ⟨rfl, hb5⟩
                have HB5 := Lib.hid (bt0 HB.out (bt1 hb5) (Nat.le_refl _))
                clear hb5
                go_wp2_with fail
                exact ⟨⟨1, by omega, by omega, rfl, fun _ => he, fun h => by omega, fun h => by omega, fun h => by omega, HB5.out⟩, by simp [intOf]⟩
            · rcases Bool.eq_false_or_eq_true (decide ((r' : Int) = 6 ∧ 8 ≤ (c' : Int) ∧ (c' : Int) ≤ (n : Int) - 9)) with he | he
              · have HF : Hid (fixI (n : Int) (r' : Int) (c' : Int) = 1 - (c' : Int) % 2) := Lib.hid (by
                  have f0 := H0.out (by omega)
                  rcases HCase.out with ⟨e, -⟩ | ⟨-, -, e⟩ | ⟨-, e, -⟩ | ⟨-, e, -⟩ | ⟨-, e, -⟩
                  · rw [f0] at e; cases e
                  · exact e
                  all_goals (rw [he] at e; cases e))
                go_wp2_with fail
                refine (pat3_any (n : Int) (r' : Int) (c' : Int) _ hni.1 hni.2).mono ?_
                rw [he]
                rintro e w5 ⟨rfl, hb5⟩
                have HST5 := Lib.hid (HST4.out.grown (bt1 hb5))
                have HPB5 := Lib.hid (blkK (bt1 hb5) (blkK HB.out HPB.out))
                obtain ⟨KB, hKB⟩ : ∃ KB, KB = wr.heap.size := ⟨_, rfl⟩
                have HKB5 := Lib.hid (show w5.heap[KB]? = some (.cells #[.func (.func 149) #[] #[], .func (.func 150) #[] #[]] 177 (0, 0)) by rw [hKB]; exact blkK hb5 (push_at _ _))
                rw [← hKB]
                clear hb5 hKB hpb hlpb hpat hlpat hbg hlbg
                have hbg := (heap_cellR HST5.out.bg).1
                have hlbg := blkLt HST5.out.bg
                have hpb := (heap_cellR HPB5.out).1
                have hlpb := blkLt HPB5.out
                have hkb := (heap_cellR HKB5.out).1
                have hlkb := blkLt HKB5.out
                go_wp2_with fail
                refine wp_region_ext_tail 7 (by kernel_rfl) (by kernel_rfl) ?_
                simp only [List.take_succ_cons, List.take_zero, List.drop_succ_cons, List.drop_zero]
                repeat (go_big_quiet_step ((go_at_call 150; go_must (refine calls_ext _ (pat4_any (n : Int) (r' : Int) (c' : Int) _ HRC.out.2.2.1 HRC.out.2.2.2)))))
                refine wpQuiet_nil ?_
                rintro _ ⟨s, rfl⟩
                have HST6 := Lib.hid (HST5.out.grown s.below)
                clear hbg hlbg hpb hlpb hkb hlkb
                go_wp2_with fail
                refine (gridSet_any n r' c' n N cp g0 (fxL n (r' * n + c')) (1 - (c' : Int) % 2) (w.heap.size + 1) _ (by rw [HN.out]; exact fxL_len (by rw [← HN.out]; exact Nat.le_of_lt HK.out)) HK.out (by omega) HST6.out.own).mono ?_
                rintro e w6 ⟨rfl, ho6, hg6⟩
                have HST7 := Lib.hid (show StF w w6 n N cp g0 BG (BG + 1) (r' * n + (c' + 1)) from HST6.out.set hg6 (by
                  have h := fxL_set (n := n) (k := r' * n + c') (by rw [← HN.out]; exact HK.out)
                  rw [HDM.out.1, HDM.out.2, HF.out] at h
                  rw [← Nat.add_assoc, ← h]
                  exact ho6))
                clear ho6 hg6
                go_wp2_with fail
                exact ⟨⟨c' + 1, by omega, by go_num, HST7.out⟩, by simp [intOf]; omega⟩
              · go_wp2_with fail
                refine (pat3_any (n : Int) (r' : Int) (c' : Int) _ hni.1 hni.2).mono ?_
                rw [he]
                rintro e w5 ⟨rfl, hb5⟩
                have HB5 := Lib.hid (bt0 HB.out (bt1 hb5) (Nat.le_refl _))
                clear hb5
                go_wp2_with fail
                exact ⟨⟨2, by omega, by omega, rfl, fun _ => H0.out (by omega), fun _ => he, fun h => by omega, fun h => by omega, HB5.out⟩, by simp [intOf]⟩
            · rcases Bool.eq_false_or_eq_true (decide ((c' : Int) = 6 ∧ 8 ≤ (r' : Int) ∧ (r' : Int) ≤ (n : Int) - 9)) with he | he
              · have HF : Hid (fixI (n : Int) (r' : Int) (c' : Int) = 1 - (r' : Int) % 2) := Lib.hid (by
                  have f0 := H0.out (by omega)
                  have f1 := H1.out (by omega)
                  rcases HCase.out with ⟨e, -⟩ | ⟨-, e, -⟩ | ⟨-, -, -, e⟩ | ⟨-, -, e, -⟩ | ⟨-, -, e, -⟩
                  · rw [f0] at e; cases e
                  · rw [f1] at e; cases e
                  · exact e
                  all_goals (rw [he] at e; cases e))
                go_wp2_with fail
                refine (pat5_any (n : Int) (r' : Int) (c' : Int) _ hni.1 hni.2).mono ?_
                rw [he]
                rintro e w5 ⟨rfl, hb5⟩
                have HST5 := Lib.hid (HST4.out.grown (bt1 hb5))
                have HPB5 := Lib.hid (blkK (bt1 hb5) (blkK HB.out HPB.out))
                obtain ⟨KB, hKB⟩ : ∃ KB, KB = wr.heap.size := ⟨_, rfl⟩
                have HKB5 := Lib.hid (show w5.heap[KB]? = some (.cells #[.func (.func 151) #[] #[], .func (.func 152) #[] #[]] 177 (0, 0)) by rw [hKB]; exact blkK hb5 (push_at _ _))
                rw [← hKB]
                clear hb5 hKB hpb hlpb hpat hlpat hbg hlbg
                have hbg := (heap_cellR HST5.out.bg).1
                have hlbg := blkLt HST5.out.bg
                have hpb := (heap_cellR HPB5.out).1
                have hlpb := blkLt HPB5.out
                have hkb := (heap_cellR HKB5.out).1
                have hlkb := blkLt HKB5.out
                go_wp2_with fail
                refine wp_region_ext_tail 7 (by kernel_rfl) (by kernel_rfl) ?_
                simp only [List.take_succ_cons, List.take_zero, List.drop_succ_cons, List.drop_zero]
                repeat (go_big_quiet_step ((go_at_call 152; go_must (refine calls_ext _ (pat6_any (n : Int) (r' : Int) (c' : Int) _ HRC.out.1 HRC.out.2.1)))))
                refine wpQuiet_nil ?_
                rintro _ ⟨s, rfl⟩
                have HST6 := Lib.hid (HST5.out.grown s.below)
                clear hbg hlbg hpb hlpb hkb hlkb
                go_wp2_with fail
                refine (gridSet_any n r' c' n N cp g0 (fxL n (r' * n + c')) (1 - (r' : Int) % 2) (w.heap.size + 1) _ (by rw [HN.out]; exact fxL_len (by rw [← HN.out]; exact Nat.le_of_lt HK.out)) HK.out (by omega) HST6.out.own).mono ?_
                rintro e w6 ⟨rfl, ho6, hg6⟩
                have HST7 := Lib.hid (show StF w w6 n N cp g0 BG (BG + 1) (r' * n + (c' + 1)) from HST6.out.set hg6 (by
                  have h := fxL_set (n := n) (k := r' * n + c') (by rw [← HN.out]; exact HK.out)
                  rw [HDM.out.1, HDM.out.2, HF.out] at h
                  rw [← Nat.add_assoc, ← h]
                  exact ho6))
                clear ho6 hg6
                go_wp2_with fail
                exact ⟨⟨c' + 1, by omega, by go_num, HST7.out⟩, by simp [intOf]; omega⟩
              · go_wp2_with fail
                refine (pat5_any (n : Int) (r' : Int) (c' : Int) _ hni.1 hni.2).mono ?_
                rw [he]
                rintro e w5 ⟨rfl, hb5⟩
                have HB5 := Lib.hid (bt0 HB.out (bt1 hb5) (Nat.le_refl _))
                clear hb5
                go_wp2_with fail
                exact ⟨⟨3, by omega, by omega, rfl, fun _ => H0.out (by omega), fun _ => H1.out (by omega), fun _ => he, fun h => by omega, HB5.out⟩, by simp [intOf]⟩
            · rcases Bool.eq_false_or_eq_true (decide ((r' : Int) = (n : Int) - 8 ∧ (c' : Int) = 8)) with he | he
              · have HF : Hid (fixI (n : Int) (r' : Int) (c' : Int) = 1) := Lib.hid (by
                  have f0 := H0.out (by omega)
                  have f1 := H1.out (by omega)
                  have f2 := H2.out (by omega)
                  rcases HCase.out with ⟨e, -⟩ | ⟨-, e, -⟩ | ⟨-, -, e, -⟩ | ⟨-, -, -, -, e⟩ | ⟨-, -, -, e, -⟩
                  · rw [f0] at e; cases e
                  · rw [f1] at e; cases e
                  · rw [f2] at e; cases e
                  · exact e
                  · rw [he] at e; cases e)
                go_wp2_with fail
                refine (pat7_any (n : Int) (r' : Int) (c' : Int) _ hni.1 hni.2).mono ?_
                rw [he]
                rintro e w5 ⟨rfl, hb5⟩
                have HST5 := Lib.hid (HST4.out.grown (bt1 hb5))
                have HPB5 := Lib.hid (blkK (bt1 hb5) (blkK HB.out HPB.out))
                obtain ⟨KB, hKB⟩ : ∃ KB, KB = wr.heap.size := ⟨_, rfl⟩
                have HKB5 := Lib.hid (show w5.heap[KB]? = some (.cells #[.func (.func 153) #[] #[], .func (.func 154) #[] #[]] 177 (0, 0)) by rw [hKB]; exact blkK hb5 (push_at _ _))
                rw [← hKB]
                clear hb5 hKB hpb hlpb hpat hlpat hbg hlbg
                have hbg := (heap_cellR HST5.out.bg).1
                have hlbg := blkLt HST5.out.bg
                have hpb := (heap_cellR HPB5.out).1
                have hlpb := blkLt HPB5.out
                have hkb := (heap_cellR HKB5.out).1
                have hlkb := blkLt HKB5.out
                go_wp2_with fail
                refine wp_region_ext_tail 7 (by kernel_rfl) (by kernel_rfl) ?_
                simp only [List.take_succ_cons, List.take_zero, List.drop_succ_cons, List.drop_zero]
                repeat (go_big_quiet_step ((go_at_call 154; go_must (refine calls_ext _ (pat8_any (n : Int) (r' : Int) (c' : Int) _)))))
                refine wpQuiet_nil ?_
                rintro _ ⟨s, rfl⟩
                have HST6 := Lib.hid (HST5.out.grown s.below)
                clear hbg hlbg hpb hlpb hkb hlkb
                go_wp2_with fail
                refine (gridSet_any n r' c' n N cp g0 (fxL n (r' * n + c')) (1) (w.heap.size + 1) _ (by rw [HN.out]; exact fxL_len (by rw [← HN.out]; exact Nat.le_of_lt HK.out)) HK.out (by omega) HST6.out.own).mono ?_
                rintro e w6 ⟨rfl, ho6, hg6⟩
                have HST7 := Lib.hid (show StF w w6 n N cp g0 BG (BG + 1) (r' * n + (c' + 1)) from HST6.out.set hg6 (by
                  have h := fxL_set (n := n) (k := r' * n + c') (by rw [← HN.out]; exact HK.out)
                  rw [HDM.out.1, HDM.out.2, HF.out] at h
                  rw [← Nat.add_assoc, ← h]
                  exact ho6))
                clear ho6 hg6
                go_wp2_with fail
                exact ⟨⟨c' + 1, by omega, by go_num, HST7.out⟩, by simp [intOf]; omega⟩
              · go_wp2_with fail
                refine (pat7_any (n : Int) (r' : Int) (c' : Int) _ hni.1 hni.2).mono ?_
                rw [he]
                rintro e w5 ⟨rfl, hb5⟩
                have HB5 := Lib.hid (bt0 HB.out (bt1 hb5) (Nat.le_refl _))
                clear hb5
                go_wp2_with fail
                exact ⟨⟨4, by omega, by omega, rfl, fun _ => H0.out (by omega), fun _ => H1.out (by omega), fun _ => H2.out (by omega), fun _ => he, HB5.out⟩, by simp [intOf]⟩
            · have HF : Hid (fixI (n : Int) (r' : Int) (c' : Int) = -1) := Lib.hid (by
                have f0 := H0.out (by omega)
                have f1 := H1.out (by omega)
                have f2 := H2.out (by omega)
                have f3 := H3.out (by omega)
                rcases HCase.out with ⟨e, -⟩ | ⟨-, e, -⟩ | ⟨-, -, e, -⟩ | ⟨-, -, -, e, -⟩ | ⟨-, -, -, -, e⟩
                · rw [f0] at e; cases e
                · rw [f1] at e; cases e
                · rw [f2] at e; cases e
                · rw [f3] at e; cases e
                · exact e)
              have HST5 := Lib.hid (HST4.out.same (fxL_same (k := r' * n + c') (by rw [← HN.out]; exact HK.out) (by rw [HDM.out.1, HDM.out.2]; exact HF.out)))
              go_wp2_with fail
              exact ⟨⟨c' + 1, by omega, by go_num, HST5.out⟩, by simp [intOf]; omega⟩
        · have hcn : ¬ (c' : Int) < (n : Int) := by omega
          have HCN : Hid (r' * n + c' = (r' + 1) * n) := Lib.hid (by rw [Nat.add_mul, Nat.one_mul, show c' = n by omega])
          have HST3 := Lib.hid (HST2.out.same (k' := (r' + 1) * n) (by rw [HCN.out]))
          go_wp2_with fail
          exact ⟨⟨r' + 1, by omega, by go_num, HST3.out⟩, by simp [intOf]; omega⟩
    · have hrn : ¬ (r' : Int) < (n : Int) := by omega
      have HRN : Hid (r' * n = n * n) := Lib.hid (by rw [show r' = n by omega])
      have HSTE := Lib.hid (HST.out.same (k' := n * n) (by rw [HRN.out]))
      have hres := (heap_cellR HSTE.out.res).1
      have hfres := (heap_cellR HSTE.out.res).2
      have hlres := blkLt HSTE.out.res
      have HLen := Lib.hid (show (fxL n (n * n)).length = N by rw [HN.out]; exact fxL_len (Nat.le_refl _))
      go_wp2_with fail
      have h8 := HSTE.out.own
      refine bodyPost_ret (v := .agg #[.int .i64 n, .int .i64 n, .slice (some ⟨g0, 0, none⟩) N cp]) (by simp [results, Tryz.results138, go_sem, hres]) rfl ⟨some ⟨g0, 0, none⟩, cp, by rw [HLen.out], ?_, ?_⟩
      · rw [HLen.out]
        refine OwnI.weak (base := w.heap.size + 1) ?_ (by omega)
        iterate 3 (refine OwnI.setOld ?_ (by dsimp only; omega) _)
        exact h8
      · iterate 3 (refine Below.setCell ?_ (by dsimp only; omega) _)
        exact HSTE.out.below

end Go.Proofs.YtlcglclojlffgaaGreat
namespace Go.Proofs.YtlcglclojlffgaaGreat
open Go.RowKit Go.Maps

/-- append of places of another list of the call's own -/
theorem wpList_append_zz {ops : Array Oper} {rest : List Oper} {o : Oper} {a : Act} {Q : Exit → Act → World → Prop} {W : World} (hgd : o.guard = none) (s x : Operand) (T : TypeId) (hT : Tryz.prog.underlying T = some (.slice 168))
    (ho : o.op = .call { callee := .builtin .append, args := #[s, x], argTypes := #[T, T] })
    (base base' : Nat) (v : Value) (l m : List (Int × Int)) (hs : a.eval s = v) (hown : OwnZ W base v l) (g c : Nat) (hx : a.eval x = .slice (some ⟨g, 0, none⟩) m.length c)
    (hg : OwnZ W base' (.slice (some ⟨g, 0, none⟩) m.length c) m) (hl : l.length + m.length ≤ 100000000) (hb : base ≤ W.heap.size)
    (h : ∀ a' c' l' w', l' = l ++ m → OwnZ w' base (.slice a' l'.length c') l' → W.grownBy w' v.ownBlock → Below base W w' → wpList Tryz.prog ops Q rest (a.put o.dst (.slice a' l'.length c')) w') : wpList Tryz.prog ops Q (o :: rest) a W := by
  obtain ⟨i0, hi, y0, y1, y2⟩ := info_parts infoZ
  refine wpList_append_own_at _ hgd s x T ho base 168 i0 _ 2 16 hT hi y0 y1 y2 rfl (by decide) v l.length (l.flatMap plZ) hs hown ⟨g, 0, none⟩ m.length c (m.flatMap plZ) hx (zflat_len m) ?_ zflat_one (by unfold maxLen; omega) (by omega) hb
    (fun v' w' h1 h2 _ h4 => ?_)
  · intro j u hu
    have hj : j < m.length * 2 := by
      have := (List.getElem?_eq_some_iff.1 hu).1
      rwa [zflat_len] at this
    rw [Addr.add_lit, Nat.zero_add, World.ownsRow.cellAt hg j hj, hu]
  · have ho : OwnZ w' base v' (l ++ m) := by
      unfold OwnZ
      rw [List.length_append, List.flatMap_append]
      exact h1
    obtain ⟨a', c', e, _⟩ := ho.read
    exact h a' c' _ w' rfl ho h2 (below_of_grownBy h2 hb (fun k hk => hown.lo k hk))
theorem OwnZ.addr {w : World} {base : Nat} {a : Option Addr} {n c : Nat} {ps : List (Int × Int)} (h : OwnZ w base (.slice a n c) ps) (hp : 1 ≤ ps.length) : ∃ g, a = some ⟨g, 0, none⟩ ∧ base ≤ g := by
  rcases h.2 with ⟨h1, h0⟩ | ⟨g, cap, cur, h1, hb, hg, q1, q2, q3, q4⟩
  · omega
  · simp only [Value.slice.injEq] at h1
    exact ⟨g, h1.1, hb⟩
theorem Held.mono {w : World} {b n m : Nat} {T : Int × Int → Bool} (h : Held w b n T) (hn : n ≤ m) : Held w b m T := by
  obtain ⟨D, h1, h2, h3⟩ := h
  exact ⟨D, h1.mono hn, h2, h3⟩
theorem Held.belowB {w w' : World} {B b n : Nat} {T : Int × Int → Bool} (h : Held w b n T) (hb : Below B w w') (hlt : b < B) : Held w' b n T := by
  obtain ⟨D, ⟨es, clock, h1, h4, h5, h6⟩, h2, h3⟩ := h
  exact ⟨D, ⟨es, clock, (hb.block b hlt).trans h1, h4, h5, h6⟩, h2, h3⟩
theorem fmt_in {n : Int} (h : 17 ≤ n ∧ n ≤ 41) : ∀ p ∈ fmtA ++ fmtB n, (0 ≤ p.1 ∧ p.1 ≤ 41) ∧ 0 ≤ p.2 ∧ p.2 ≤ 41 := by
  intro p hp
  simp only [fmtA, fmtB, List.cons_append, List.nil_append, List.mem_cons, List.not_mem_nil, or_false] at hp
  rcases hp with rfl | rfl | rfl | rfl | rfl | rfl | rfl | rfl | rfl | rfl | rfl | rfl | rfl | rfl | rfl | rfl | rfl | rfl | rfl | rfl | rfl | rfl | rfl | rfl | rfl | rfl | rfl | rfl | rfl | rfl <;> simp <;> omega
theorem take_has {l : List (Int × Int)} {j : Nat} {q : Int × Int} (h : l[j]? = some q) (T : Int × Int → Bool) (p : Int × Int) : (decide (p = q) || ((l.take j).contains p || T p)) = ((l.take (j + 1)).contains p || T p) := by
  rw [take_snoc' h, List.contains_append, Bool.or_comm ((l.take j).contains p), ← Bool.or_assoc]
  simp only [List.contains_cons, List.contains_nil, Bool.or_false]
  rw [Bool.or_assoc, Bool.or_left_comm]
  cases (List.contains (l.take j) p) <;> by_cases e : p = q <;> simp [e]
/-- the fixed cells among the first k -/
def fxT (n k : Nat) (p : Int × Int) : Bool := (List.range k).any fun i => decide (0 ≤ fixI n ((i / n : Nat) : Int) ((i % n : Nat) : Int)) && decide (p = (((i / n : Nat) : Int), ((i % n : Nat) : Int)))
theorem fxT_step (n k : Nat) (p : Int × Int) : fxT n (k + 1) p = (fxT n k p || (decide (0 ≤ fixI n ((k / n : Nat) : Int) ((k % n : Nat) : Int)) && decide (p = (((k / n : Nat) : Int), ((k % n : Nat) : Int))))) := by
  unfold fxT
  rw [List.range_succ, List.any_append]
  simp
theorem fxT_yes {n k : Nat} (h : 0 ≤ fixI n ((k / n : Nat) : Int) ((k % n : Nat) : Int)) (p : Int × Int) : (decide (p = (((k / n : Nat) : Int), ((k % n : Nat) : Int))) || fxT n k p) = fxT n (k + 1) p := by
  rw [fxT_step, decide_eq_true h, Bool.true_and, Bool.or_comm]
theorem fxT_no {n k : Nat} (h : ¬ 0 ≤ fixI n ((k / n : Nat) : Int) ((k % n : Nat) : Int)) (p : Int × Int) : fxT n k p = fxT n (k + 1) p := by
  rw [fxT_step, decide_eq_false h, Bool.false_and, Bool.or_false]
theorem fxT_all {n : Nat} (r c : Nat) (hr : r < n) (hc : c < n) : fxT n (n * n) ((r : Int), (c : Int)) = decide (0 ≤ fixI n (r : Int) (c : Int)) := by
  have h1 : (r * n + c) / n = r := by rw [Nat.mul_comm, Nat.mul_add_div (by omega), Nat.div_eq_of_lt hc, Nat.add_zero]
  have h2 : (r * n + c) % n = c := by rw [Nat.mul_comm, Nat.mul_add_mod, Nat.mod_eq_of_lt hc]
  rw [Bool.eq_iff_iff]
  unfold fxT
  simp only [List.any_eq_true, List.mem_range, Bool.and_eq_true, decide_eq_true_eq, Prod.mk.injEq]
  constructor
  · rintro ⟨i, hi, hf, e1, e2⟩
    rwa [e1, e2]
  · intro hf
    have h3 : (r + 1) * n ≤ n * n := Nat.mul_le_mul_right _ hr
    rw [Nat.add_mul, Nat.one_mul] at h3
    exact ⟨r * n + c, by omega, by rw [h1, h2]; exact hf, by rw [h1], by rw [h2]⟩
theorem fxL_get {n k : Nat} (h : k < n * n) : (fxL n (n * n))[k]? = some (fixI n ((k / n : Nat) : Int) ((k % n : Nat) : Int)) := by
  unfold fxL
  rw [List.getElem?_append_left (by simpa using h), List.getElem?_map, List.getElem?_range h]
  rfl
theorem wfN {q : Nat} (h : q ≤ 10000) : (Lit.int .i64 (q : Int)).wf = true := wf64 (by omega)
theorem fieldG (w : World) (x y : Int) (a : Option Addr) (k c : Nat) : (Instr.field 144 (.agg #[.int .i64 x, .int .i64 y, .slice a k c]) 2).run Tryz.prog w = .ok (.slice a k c) w := by kernel_rfl
/-- the map of the places that are no data cells is handed back -/
def RetHeld (n : Nat) (w : World) (e : Ending) (w' : World) : Prop :=
  ∃ b k T, e = .returned (.map (some b)) ∧ Held w' b k T ∧ w.heap.size ≤ b ∧ Below w.heap.size w w' ∧ ∀ r c : Nat, r < n → c < n → T ((r : Int), (c : Int)) = takenI n (r : Int) (c : Int)
set_option maxRecDepth 100000 in
set_option maxHeartbeats 4000000 in
theorem noData_any (n : Nat) (w : World) (hn : 17 ≤ n) (hn2 : n ≤ 41) :
    Calls Tryz.prog 135 #[.int .i64 n] w (RetHeld n w) := by
  have hN := Nat.mul_le_mul hn2 hn2
  obtain ⟨N, hNe⟩ : ∃ N, N = n * n := ⟨_, rfl⟩
  rw [← hNe] at hN
  have HN := Lib.hid hNe
  clear hNe
  have hmm := @run_makeMap Tryz.prog
  go_enter Tryz.func135, Tryz.ntmps135
  go_wp2_with fail
  refine (fixed_any n _ hn hn2).mono ?_
  rintro e w1 ⟨a1, cp, rfl, ho1, hb1⟩
  have HL1 := Lib.hid (show (fxL n (n * n)).length = N by rw [HN.out]; exact fxL_len (Nat.le_refl _))
  have HM1 := Lib.hid ((Held.made w).below hb1)
  have HB1 := Lib.hid (bt1 hb1)
  rw [HL1.out] at ho1 ⊢
  have HO1 := Lib.hid (ho1.weak (show w.heap.size + 1 ≤ _ by simp))
  clear ho1 hb1 hmm
  have hfg := fieldG
  go_wp2_with fail
  clear hfg
  go_loopw [4, 5, 15] (fun _ _ i wr => ∃ k : Nat, k ≤ N ∧ i = .int .i64 k ∧ Held wr w.heap.size k (fxT n k) ∧ OwnI wr (w.heap.size + 1) (.slice a1 N cp) (fxL n (n * n)) ∧ Below w.heap.size w wr) (fun _ _ i _ => N - (intOf i).toNat)
  case atStart => exact ⟨0, Nat.zero_le _, rfl, HM1.out.like (fun p => rfl), HO1.out, HB1.out⟩
  case round =>
    obtain ⟨k, hk, rfl, hm, ho, hb⟩ := hrel
    have HM := Lib.hid hm
    have HO := Lib.hid ho
    have HB := Lib.hid hb
    clear hm ho hb
    by_cases hlt : k < N
    · obtain ⟨b1, o1, z, rfl, hz, hb1, hc1⟩ := HO.out.ints.at (by rw [HL1.out]; exact hlt)
      have hlti : (k : Int) < (N : Int) := by omega
      rw [fxL_get (by rw [← HN.out]; exact hlt)] at hz
      have HZ := Lib.hid (Option.some.inj hz)
      clear hz
      by_cases h0 : 0 ≤ z
      · have HY := Lib.hid (fun p => fxT_yes (n := n) (k := k) (by rw [HZ.out]; exact h0) p)
        have HW : Hid ((Lit.int .i64 ((k / n : Nat) : Int)).wf = true ∧ (Lit.int .i64 ((k % n : Nat) : Int)).wf = true) := Lib.hid (by
          have h1 := Nat.div_le_self k n
          have h2 := Nat.mod_le k n
          exact ⟨wfN (Nat.le_trans h1 (by omega)), wfN (Nat.le_trans h2 (by omega))⟩)
        have hni : (17 : Int) ≤ (n : Int) ∧ (n : Int) ≤ 41 := by omega
        have hk0 : (0 : Int) ≤ (k : Int) := by omega
        have hkq : (0 : Int) ≤ (k : Int) / (n : Int) ∧ (k : Int) / (n : Int) ≤ 1681 := ⟨Int.ediv_nonneg hk0 (by omega), Int.le_trans (Int.ediv_le_self _ hk0) (by omega)⟩
        go_wp2_with fail
        refine wp_region_ext_tail 8 (by kernel_rfl) (by kernel_rfl) ?_
        simp only [List.take_succ_cons, List.take_zero, List.drop_succ_cons, List.drop_zero]
        repeat (go_big_quiet_step (fail))
        refine wpQuiet_nil ?_
        rintro _ ⟨s, rfl⟩
        have HM2 := Lib.hid (HM.out.below s.below)
        go_wp2_with (at_mapUpdate; refine wpList_mapSet (o := _) rfl _ _ _ 165 rfl Tryz.underlying165 w.heap.size k (fxT n k) rfl HM2.out (by unfold maxLen; omega) ((k : Int) / (n : Int)) ((k : Int) % (n : Int)) HW.out.1 HW.out.2 rfl rfl ?_; intro w3 hm3 hg3)
        exact ⟨⟨k + 1, by omega, by go_num, hm3.like HY.out, (HO.out.grown s.below).other hg3 (fun j hj e => by have := HO.out.lo j hj; have := Option.some.inj e; omega), (bt0 HB.out s.below (Nat.le_refl _)).trans (below_of_grownBy hg3 (by have := HB.out.size; have := s.below.size; omega) (fun j hj => by cases hj; exact Nat.le_refl _))⟩, by simp [intOf]; omega⟩
      · have HY := Lib.hid (fun p => fxT_no (n := n) (k := k) (by rw [HZ.out]; exact h0) p)
        go_wp2_with fail
        exact ⟨⟨k + 1, by omega, by go_num, (HM.out.like HY.out).mono (by omega), HO.out, HB.out⟩, by simp [intOf]; omega⟩
    · have hlti : ¬ (k : Int) < (N : Int) := by omega
      obtain rfl : k = N := by omega
      rw [HN.out] at HM
      go_wp2_with fail
      refine (formats_any (n : Int) _ (by omega) (by omega)).mono ?_
      rintro e w2 ⟨fa, fc, fb, fd, rfl, ht⟩
      obtain ⟨gb, rfl, hgb⟩ := ht.b.addr (show 1 ≤ (fmtB (n : Int)).length from by simp [fmtB])
      have HT := Lib.hid ht
      have HM2 := Lib.hid (HM.out.below ht.below)
      have HB2 := Lib.hid (bt0 HB.out ht.below (Nat.le_refl _))
      clear ht
      obtain ⟨A, hA⟩ : ∃ A, A = fmtA := ⟨_, rfl⟩
      obtain ⟨B, hB⟩ : ∃ B, B = fmtB (n : Int) := ⟨_, rfl⟩
      rw [← hA, ← hB] at HT ⊢
      have HA := Lib.hid hA
      have HB' := Lib.hid hB
      have HLA := Lib.hid (show A.length = 15 by rw [hA]; rfl)
      have HLB := Lib.hid (show B.length = 15 by rw [hB]; rfl)
      clear hA hB
      go_wp2_with (at_builtin; refine wpList_append_zz (o := _) rfl (.tmp 36) (.tmp 37) 153 Tryz.underlying153 rfl wr.heap.size wr.heap.size (.slice fa A.length fc) A B rfl HT.out.a gb fd rfl HT.out.b (by rw [HLA.out, HLB.out]; omega) HT.out.below.size ?_; intro a9 c9 l9 w9 he9 ho9 hg9 hb9; have HE0 := Lib.hid he9; clear he9)
      have HE9 := Lib.hid (show l9 = fmtA ++ fmtB (n : Int) by rw [HE0.out, HA.out, HB'.out])
      have HL9 := Lib.hid (show l9.length = 30 by rw [HE0.out, List.length_append, HLA.out, HLB.out])
      have hwl := HM.out.lt
      have HM9 := Lib.hid (HM2.out.belowB hb9 hwl)
      have HO9 := Lib.hid ho9
      have HB9 := Lib.hid (HB2.out.trans (hb9.mono (Nat.le_of_lt hwl)))
      have HWL := Lib.hid hwl
      clear HE0 ho9 hg9 hb9 HA HB' HLA HLB HT HM2 hwl
      go_loopw [9, 40] (fun _ i wx => ∃ j : Nat, j ≤ 30 ∧ i = .int .i64 j ∧ Held wx w.heap.size (n * n + j) (fun p => (l9.take j).contains p || fxT n (n * n) p) ∧ OwnZ wx wr.heap.size (.slice a9 l9.length c9) l9 ∧ Below w.heap.size w wx) (fun _ i _ => 30 - (intOf i).toNat)
      case atStart => exact ⟨0, by omega, rfl, HM9.out.like (fun p => by simp), HO9.out, HB9.out⟩
      case round =>
        obtain ⟨j, hj, rfl, hm, ho, hb⟩ := hrel
        have HMx := Lib.hid hm
        have HOx := Lib.hid ho
        have HBx := Lib.hid hb
        clear hm ho hb
        by_cases hlt : j < 30
        · have hlti : (j : Int) < (l9.length : Int) := by rw [HL9.out]; omega
          have hjl : j < l9.length := by rw [HL9.out]; exact hlt
          obtain ⟨b1, o1, rfl, hc0, hc1⟩ := HOx.out.pls j hjl
          have HG := Lib.hid (List.getElem?_eq_getElem hjl)
          have hin := fmt_in (n := (n : Int)) (by omega) (l9[j]) (by rw [← HE9.out]; exact List.getElem_mem hjl)
          obtain ⟨⟨r, c⟩, hrc⟩ : ∃ q, q = l9[j] := ⟨_, rfl⟩
          rw [← hrc] at hin hc0 hc1 HG
          have HW : Hid ((Lit.int .i64 r).wf = true ∧ (Lit.int .i64 c).wf = true) := Lib.hid ⟨wf64 (by have := hin.1; simp at this; omega), wf64 (by have := hin.2; simp at this; omega)⟩
          have hlb := lt_of_cell hc0
          clear hin hrc
          go_wp2_with (at_mapUpdate; refine wpList_mapSet (o := _) rfl _ _ _ 165 rfl Tryz.underlying165 w.heap.size (n * n + j) (fun p => (l9.take j).contains p || fxT n (n * n) p) rfl (HMx.out.below (ba1 _ _)) (by have := Nat.mul_le_mul hn2 hn2; unfold maxLen; omega) r c HW.out.1 HW.out.2 rfl rfl ?_; intro w3 hm3 hg3)
          exact ⟨⟨j + 1, by omega, by go_num, hm3.like (take_has HG.out _), (HOx.out.grown (ba1 _ _)).other hg3 (fun q hq e => by have := HOx.out.lo q hq; have := Option.some.inj e; have := HWL.out; omega), (bt0 HBx.out (ba1 _ _) (Nat.le_refl _)).trans (below_of_grownBy hg3 (by have := HBx.out.size; simp; omega) (fun q hq => by cases hq; exact Nat.le_refl _))⟩, by simp [intOf]; omega⟩
        · have hlti : ¬ (j : Int) < (l9.length : Int) := by rw [HL9.out]; omega
          go_wp2_with fail
          refine bodyPost_ret (v := .map (some w.heap.size)) (by simp [results, Tryz.results135, go_sem]) rfl ?_
          refine ⟨_, _, _, rfl, HMx.out, Nat.le_refl _, HBx.out, fun r c hr hc => ?_⟩
          rw [List.take_of_length_le (by rw [HL9.out]; omega), HE9.out, fxT_all r c hr hc, takenI, List.contains_append, Bool.or_comm, Bool.or_assoc]

end Go.Proofs.YtlcglclojlffgaaGreat
namespace Go.Proofs.YtlcglclojlffgaaGreat
open Go.RowKit Go.Maps

/-- the k-th place of a pair of columns -/
def colQ (n right : Int) (up : Bool) (k : Nat) : Int × Int := ((if up then n - 1 - (k : Int) / 2 else (k : Int) / 2), right - (k : Int) % 2)
/-- the places among the first K of a pair of columns -/
def colK (n right : Int) (up : Bool) (K : Nat) : List (Int × Int) := ((List.range K).map (colQ n right up)).filter fun p => !takenI n p.1 p.2
theorem colK_all (n right : Int) (up : Bool) : colI n right up = colK n right up (2 * n.toNat) := rfl
theorem colK_yes {n right : Int} {up : Bool} {K : Nat} (h : takenI n (colQ n right up K).1 (colQ n right up K).2 = true) : colK n right up (K + 1) = colK n right up K := by
  unfold colK
  rw [List.range_succ, List.map_append, List.filter_append]
  simp [h]
theorem colK_no {n right : Int} {up : Bool} {K : Nat} (h : takenI n (colQ n right up K).1 (colQ n right up K).2 = false) : colK n right up (K + 1) = colK n right up K ++ [colQ n right up K] := by
  unfold colK
  rw [List.range_succ, List.map_append, List.filter_append]
  simp [h]
theorem colK_len (n right : Int) (up : Bool) (K : Nat) : (colK n right up K).length ≤ K := by
  unfold colK
  refine Nat.le_trans (List.length_filter_le _ _) ?_
  simp
theorem rights_step {f : Nat} {r : Int} (h : 0 < r) (hf : r ≤ f) : ∃ g : Nat, (g : Int) = f - 1 ∧ rightsI f r = (if r = 6 then 5 else r) :: rightsI g ((if r = 6 then 5 else r) - 2) := by
  cases f with
  | zero => omega
  | succ g => exact ⟨g, by omega, by rw [rightsI, if_pos h]⟩
theorem rights_end {f : Nat} {r : Int} (h : ¬ 0 < r) : rightsI f r = [] := by
  cases f with
  | zero => rfl
  | succ g => rw [rightsI, if_neg h]
/-- places of the call's own are handed back -/
def RetZ (w : World) (l : List (Int × Int)) (e : Ending) (w' : World) : Prop :=
  ∃ a c, e = .returned (.slice a l.length c) ∧ OwnZ w' w.heap.size (.slice a l.length c) l ∧ Below w.heap.size w w'
set_option maxRecDepth 100000 in
set_option maxHeartbeats 4000000 in
theorem dataPlaces_any (n : Nat) (w : World) (hn : 17 ≤ n) (hn2 : n ≤ 41) :
    Calls Tryz.prog 127 #[.int .i64 n] w (RetZ w (placesI n)) := by
  have hni : (17 : Int) ≤ (n : Int) ∧ (n : Int) ≤ 41 := by omega
  go_enter Tryz.func127, Tryz.ntmps127
  go_wp2_with fail
  refine (noData_any n _ hn hn2).mono ?_
  rintro e w1 ⟨b, kk, T, rfl, hm, hbl, hb1, hT⟩
  have HM1 := Lib.hid hm
  have HB1 := Lib.hid hb1
  have HT := Lib.hid hT
  have HBL := Lib.hid hm.lt
  clear hm hbl hb1 hT
  go_wp2_with fail
  have HO1 := Lib.hid (OwnZ.new w1)
  go_loopw [4, 5, 6, 7, 8] (fun s u r _ _ wr => ∃ (f : Nat) (rt : Int) (up : Bool) (a : Option Addr) (c : Nat) (l : List (Int × Int)), -2 ≤ rt ∧ rt ≤ f ∧ f ≤ n ∧ rt ≤ n - 1 ∧ r = .int .i64 rt ∧ u = .bool up ∧ s = .slice a l.length c ∧ placesI n = l ++ placesF n (rightsI f rt) up ∧ l.length + 100 * f ≤ 4100 ∧ OwnZ wr w1.heap.size (.slice a l.length c) l ∧ Below w1.heap.size w1 wr) (fun _ _ r _ _ _ => (intOf r + 2).toNat)
  case atStart => exact ⟨n, n - 1, true, _, _, [], by omega, by omega, by omega, by omega, by go_num, rfl, rfl, by rw [placesI]; rfl, by simp; omega, HO1.out, ba1 _ _⟩
  case round =>
    obtain ⟨f, rt, up, a, c, l, h1, h2, h3, h4, rfl, rfl, rfl, hp, hl, ho, hb⟩ := hrel
    have HP := Lib.hid hp
    have HLn := Lib.hid hl
    have HO := Lib.hid ho
    have HB := Lib.hid hb
    clear hp hl ho hb
    by_cases hr : 0 < rt
    · obtain ⟨g, hg, hs⟩ := rights_step hr h2
      rw [hs, placesF] at HP
      clear hs
      obtain ⟨rt', hrt⟩ : ∃ x, x = (if rt = 6 then 5 else rt) := ⟨_, rfl⟩
      rw [← hrt] at HP
      have hq : 1 ≤ rt' ∧ rt' ≤ rt := by rw [hrt]; split <;> omega
      go_wp2_with fail
      go_step3
      go_upto_if 19 with fail
      go_cut [6] (fun r wx => r = .int .i64 rt' ∧ wx = wr)
      case first =>
        by_cases h6 : rt = 6
        · rw [if_pos h6] at hrt
          subst h6 hrt
          go_wp2_with fail
          go_meet
          exact ⟨rfl, rfl⟩
        · rw [if_neg h6] at hrt
          subst hrt
          go_wp2_with fail
          go_meet
          exact ⟨rfl, rfl⟩
      case rest =>
        obtain ⟨rfl, rfl⟩ := hcut
        clear hrt
        cases up
        · go_wp2_with fail
          go_step3
          go_wp2_with fail
          go_loopw [4, 7, 8] (fun s v _ wr => ∃ (k : Nat) (a : Option Addr) (c : Nat) (m : List (Int × Int)), k ≤ 2 * n ∧ v = .int .i64 k ∧ s = .slice a m.length c ∧ m = l ++ colK n (rt') false k ∧ OwnZ wr w1.heap.size (.slice a m.length c) m ∧ Below w1.heap.size w1 wr) (fun _ v _ _ => 2 * n - (intOf v).toNat)
          case atStart => exact ⟨0, _, _, l, by omega, by go_num, rfl, by simp [colK], HO.out, HB.out⟩
          case round =>
            obtain ⟨k, a, c, m, hk, rfl, rfl, hm, ho, hb⟩ := hrel
            have HMm := Lib.hid hm
            have HO2 := Lib.hid ho
            have HB2 := Lib.hid hb
            clear hm ho hb
            by_cases hlt : k < 2 * n
            · have hlti : (k : Int) < 2 * (n : Int) := by omega
              have HW : Hid ((Lit.int .i64 ((k : Int) / 2)).wf = true ∧ (Lit.int .i64 ((rt') - (k : Int) % 2)).wf = true) := Lib.hid ⟨wf64 (by omega), wf64 (by omega)⟩
              have HTk := Lib.hid (show T (((k : Int) / 2), (rt') - (k : Int) % 2) = takenI n ((k : Int) / 2) ((rt') - (k : Int) % 2) by
                have h := HT.out (((k : Int) / 2)).toNat ((rt') - (k : Int) % 2).toNat (by omega) (by omega)
                rwa [Int.toNat_of_nonneg (by omega), Int.toNat_of_nonneg (by omega)] at h)
              have HLm := Lib.hid (show m.length ≤ 4100 by
                have e1 := colK_len (n : Int) (rt') false k
                have e2 := HLn.out
                rw [HMm.out, List.length_append]; omega)
              rcases Bool.eq_false_or_eq_true (takenI n ((k : Int) / 2) ((rt') - (k : Int) % 2)) with ht | ht
              · have HS := Lib.hid (colK_yes (n := (n : Int)) (right := rt') (up := false) (K := k) (by simpa [colQ] using ht))
                go_wp2_with (at_lookup; refine wpList_mapGet (o := _) rfl _ _ 165 rfl Tryz.underlying165 b kk T rfl ((HM1.out.belowB HB2.out HBL.out).below (ba1 _ _)) ((k : Int) / 2) ((rt') - (k : Int) % 2) HW.out.1 HW.out.2 rfl ?_; rw [HTk.out, ht])
                exact ⟨⟨k + 1, a, c, m, by omega, by go_num, rfl, by rw [HMm.out, HS.out], HO2.out.grown (ba1 _ _), bt0 HB2.out (ba1 _ _) (Nat.le_refl _)⟩, by simp [intOf]; omega⟩
              · have HS := Lib.hid (colK_no (n := (n : Int)) (right := rt') (up := false) (K := k) (by simpa [colQ] using ht))
                go_wp2_with (first | (at_lookup; refine wpList_mapGet (o := _) rfl _ _ 165 rfl Tryz.underlying165 b kk T rfl ((HM1.out.belowB HB2.out HBL.out).below (ba1 _ _)) ((k : Int) / 2) ((rt') - (k : Int) % 2) HW.out.1 HW.out.2 rfl ?_; rw [HTk.out, ht]) | (at_builtin; refine wpList_append_zs (o := _) rfl (.tmp 45) (.tmp 47) 153 Tryz.underlying153 rfl w1.heap.size (.slice a m.length c) m [((k : Int) / 2, rt' - (k : Int) % 2)] rfl ((HO2.out.grown (ba1 _ _)).grown (ba1 _ _)) (wr.heap.size + 1) 1 rfl rfl ((heap2 wr _ _).2) (by have := HLm.out; simp; omega) (by have := HB2.out.size; simp; omega) ?_; intro a8 c8 l8 w8 he8 ho8 hg8 hb8 hat8; have HE8 := Lib.hid he8; clear he8))
                exact ⟨⟨k + 1, a8, c8, l8, by omega, by go_num, rfl, by rw [HE8.out, HMm.out, HS.out, List.append_assoc]; rfl, ho8, (bt0 HB2.out (ba2 _ _ _) (Nat.le_refl _)).trans hb8⟩, by simp [intOf]; omega⟩
            · have hlti : ¬ (k : Int) < 2 * (n : Int) := by omega
              obtain rfl : k = 2 * n := by omega
              go_wp2_with fail
              exact ⟨⟨g, rt' - 2, true, a, c, m, by omega, by omega, by omega, by omega, by go_num, rfl, rfl, by
                have e := HP.out
                rw [colK_all, Int.toNat_natCast, ← List.append_assoc, ← HMm.out] at e
                exact e, by
                have e1 := colK_len (n : Int) rt' false (2 * n)
                have e2 := HLn.out
                rw [HMm.out, List.length_append]; omega, HO2.out, HB2.out⟩, by simp [intOf]; omega⟩
        · go_wp2_with fail
          go_step3
          go_wp2_with fail
          go_loopw [4, 7, 8] (fun s v _ wr => ∃ (k : Nat) (a : Option Addr) (c : Nat) (m : List (Int × Int)), k ≤ 2 * n ∧ v = .int .i64 k ∧ s = .slice a m.length c ∧ m = l ++ colK n (rt') true k ∧ OwnZ wr w1.heap.size (.slice a m.length c) m ∧ Below w1.heap.size w1 wr) (fun _ v _ _ => 2 * n - (intOf v).toNat)
          case atStart => exact ⟨0, _, _, l, by omega, by go_num, rfl, by simp [colK], HO.out, HB.out⟩
          case round =>
            obtain ⟨k, a, c, m, hk, rfl, rfl, hm, ho, hb⟩ := hrel
            have HMm := Lib.hid hm
            have HO2 := Lib.hid ho
            have HB2 := Lib.hid hb
            clear hm ho hb
            by_cases hlt : k < 2 * n
            · have hlti : (k : Int) < 2 * (n : Int) := by omega
              have HW : Hid ((Lit.int .i64 ((n : Int) - 1 - (k : Int) / 2)).wf = true ∧ (Lit.int .i64 ((rt') - (k : Int) % 2)).wf = true) := Lib.hid ⟨wf64 (by omega), wf64 (by omega)⟩
              have HTk := Lib.hid (show T (((n : Int) - 1 - (k : Int) / 2), (rt') - (k : Int) % 2) = takenI n ((n : Int) - 1 - (k : Int) / 2) ((rt') - (k : Int) % 2) by
                have h := HT.out (((n : Int) - 1 - (k : Int) / 2)).toNat ((rt') - (k : Int) % 2).toNat (by omega) (by omega)
                rwa [Int.toNat_of_nonneg (by omega), Int.toNat_of_nonneg (by omega)] at h)
              have HLm := Lib.hid (show m.length ≤ 4100 by
                have e1 := colK_len (n : Int) (rt') true k
                have e2 := HLn.out
                rw [HMm.out, List.length_append]; omega)
              rcases Bool.eq_false_or_eq_true (takenI n ((n : Int) - 1 - (k : Int) / 2) ((rt') - (k : Int) % 2)) with ht | ht
              · have HS := Lib.hid (colK_yes (n := (n : Int)) (right := rt') (up := true) (K := k) (by simpa [colQ] using ht))
                go_wp2_with (at_lookup; refine wpList_mapGet (o := _) rfl _ _ 165 rfl Tryz.underlying165 b kk T rfl ((HM1.out.belowB HB2.out HBL.out).below (ba1 _ _)) ((n : Int) - 1 - (k : Int) / 2) ((rt') - (k : Int) % 2) HW.out.1 HW.out.2 rfl ?_; rw [HTk.out, ht])
                exact ⟨⟨k + 1, a, c, m, by omega, by go_num, rfl, by rw [HMm.out, HS.out], HO2.out.grown (ba1 _ _), bt0 HB2.out (ba1 _ _) (Nat.le_refl _)⟩, by simp [intOf]; omega⟩
              · have HS := Lib.hid (colK_no (n := (n : Int)) (right := rt') (up := true) (K := k) (by simpa [colQ] using ht))
                go_wp2_with (first | (at_lookup; refine wpList_mapGet (o := _) rfl _ _ 165 rfl Tryz.underlying165 b kk T rfl ((HM1.out.belowB HB2.out HBL.out).below (ba1 _ _)) ((n : Int) - 1 - (k : Int) / 2) ((rt') - (k : Int) % 2) HW.out.1 HW.out.2 rfl ?_; rw [HTk.out, ht]) | (at_builtin; refine wpList_append_zs (o := _) rfl (.tmp 45) (.tmp 47) 153 Tryz.underlying153 rfl w1.heap.size (.slice a m.length c) m [((n : Int) - 1 - (k : Int) / 2, rt' - (k : Int) % 2)] rfl ((HO2.out.grown (ba1 _ _)).grown (ba1 _ _)) (wr.heap.size + 1) 1 rfl rfl ((heap2 wr _ _).2) (by have := HLm.out; simp; omega) (by have := HB2.out.size; simp; omega) ?_; intro a8 c8 l8 w8 he8 ho8 hg8 hb8 hat8; have HE8 := Lib.hid he8; clear he8))
                exact ⟨⟨k + 1, a8, c8, l8, by omega, by go_num, rfl, by rw [HE8.out, HMm.out, HS.out, List.append_assoc]; rfl, ho8, (bt0 HB2.out (ba2 _ _ _) (Nat.le_refl _)).trans hb8⟩, by simp [intOf]; omega⟩
            · have hlti : ¬ (k : Int) < 2 * (n : Int) := by omega
              obtain rfl : k = 2 * n := by omega
              go_wp2_with fail
              exact ⟨⟨g, rt' - 2, false, a, c, m, by omega, by omega, by omega, by omega, by go_num, rfl, rfl, by
                have e := HP.out
                rw [colK_all, Int.toNat_natCast, ← List.append_assoc, ← HMm.out] at e
                exact e, by
                have e1 := colK_len (n : Int) rt' true (2 * n)
                have e2 := HLn.out
                rw [HMm.out, List.length_append]; omega, HO2.out, HB2.out⟩, by simp [intOf]; omega⟩
    · rw [rights_end hr, placesF, List.append_nil] at HP
      go_wp2_with fail
      refine bodyPost_ret (v := .slice a l.length c) (by simp [results, Tryz.results127, go_sem]) rfl ?_
      have hp := HP.out
      subst hp
      exact ⟨_, _, rfl, HO.out.weak (Nat.le_trans (by simp) HB1.out.size), HB1.out.trans (HB.out.mono HB1.out.size)⟩

end Go.Proofs.YtlcglclojlffgaaGreat
namespace Go.Proofs.YtlcglclojlffgaaGreat
open Go.RowKit

theorem msz_bd {n : Int} (h : msz n = true) : 17 ≤ n ∧ n ≤ 41 := by
  unfold msz at h
  simp at h
  omega
set_option maxRecDepth 100000 in
set_option maxHeartbeats 2000000 in
theorem dataCount_any (n : Int) (w : World) (h1 : -9223372036854775808 ≤ n) (h2 : n ≤ 9223372036854775807) :
    Calls Tryz.prog 103 #[.int .i64 n] w (fun e w' => e = .returned (.int .i64 (if msz n = true then (dcnt n : Int) else 0)) ∧ Below w.heap.size w w') := by
  rcases Bool.eq_false_or_eq_true (msz n) with h | h
  · have hb := msz_bd h
    obtain ⟨m, rfl⟩ : ∃ m : Nat, n = (m : Int) := ⟨n.toNat, by omega⟩
    have HL := Lib.hid (places_len h)
    rw [if_pos h]
    go_enter Tryz.func103, Tryz.ntmps103
    go_wp2_with fail
    refine (isMsz_any _ _ h1 h2).mono ?_
    rw [h]
    rintro e w' ⟨rfl, rfl⟩
    go_wp2_with fail
    refine (dataPlaces_any m _ (by omega) (by omega)).mono ?_
    rintro e w2 ⟨a, c, rfl, -, hb2⟩
    have HB := Lib.hid hb2
    clear hb2
    rw [HL.out]
    go_wp2_with fail
    refine bodyPost_ret (v := .int .i64 (dcnt (m : Int) : Nat)) (by simp [results, Tryz.results103, go_sem]) rfl ?_
    exact ⟨rfl, HB.out⟩
  · rw [if_neg (by rw [h]; decide)]
    go_enter Tryz.func103, Tryz.ntmps103
    go_wp2_with fail
    refine (isMsz_any _ _ h1 h2).mono ?_
    rw [h]
    rintro e w' ⟨rfl, rfl⟩
    go_wp2_with fail
    refine bodyPost_ret (v := .int .i64 0) (by simp [results, Tryz.results103, go_sem]) rfl ?_
    exact ⟨rfl, Below.refl _ _⟩

end Go.Proofs.YtlcglclojlffgaaGreat
