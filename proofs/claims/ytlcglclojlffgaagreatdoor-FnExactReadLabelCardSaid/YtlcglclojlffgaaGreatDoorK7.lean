import Derived.Test.YtlcglclojlffgaaGreatDoorK6
import Derived.Test.YtlcglclojlffgaaGreatDoorK3
import Derived.BigQuiet
import Derived.Test.YtlcglclojlffgaaGreatDoorK0
import Derived.BigRegion
import Derived.Lib.AppendStr
import Derived.Laws.BytesArg
import Derived.Test.YtlcglclojlffgaaGreatDoorK2
namespace Go.Proofs.YtlcglclojlffgaaGreatDoor
open Go.RowKit

theorem below_drewN {B : Nat} (w : World) (k : Nat) : Below B w (w.drewN k) := ⟨rfl, rfl, rfl, Nat.le_refl _, fun _ _ => rfl⟩
/-- what readDecimal answers -/
def RetDecR (w : World) (o : Option Int) (e : Ending) (w' : World) : Prop :=
  ∃ v : Int, e = .returned (.tuple #[.int .i64 v, .bool o.isSome]) ∧ (∀ n, o = some n → v = n) ∧ Below w.heap.size w w'
theorem retDecR_no {w w' : World} {o : Option Int} (h : o = none) (v : Int) (hb : Below w.heap.size w w') : RetDecR w o (.returned (.tuple #[.int .i64 v, .bool false])) w' := by
  subst h; exact ⟨v, rfl, fun n e => (by cases e), hb⟩
theorem retDecR_yes {w w' : World} {o : Option Int} {v : Int} (h : o = some v) (hb : Below w.heap.size w w') : RetDecR w o (.returned (.tuple #[.int .i64 v, .bool true])) w' := by
  subst h; exact ⟨v, rfl, fun n e => Option.some.inj e, hb⟩
theorem get0 {s : ByteArray} (h : 0 < s.size) : s.data.toList[0]? = some s[0] := by
  have hl : s.data.toList.length = s.size := rfl
  rw [List.getElem?_eq_getElem (by omega)]
  rfl

set_option maxRecDepth 100000 in
set_option maxHeartbeats 1000000 in
theorem readDecimal_any (s : ByteArray) (w : World) (hs : s.size ≤ 1048576) (hE : Env w) :
    Calls Tryz.prog 32 #[.string s] w (RetDecR w (rdec s.data.toList)) := by
  have HE := Lib.hid hE
  clear hE
  have hl : s.data.toList.length = s.size := rfl
  by_cases h0 : s.size = 0
  · have hd : s.data.toList = [] := List.eq_nil_of_length_eq_zero (by omega)
    have e : s = ⟨#[]⟩ := by apply ByteArray.ext; apply Array.toList_inj.1; exact hd
    subst e
    have HN := Lib.hid (show rdec (ByteArray.data ⟨#[]⟩).toList = none from rfl)
    go_enter Tryz.func32, Tryz.ntmps32
    go_wp2_with fail
    go_ret2
    exact retDecR_no HN.out _ (Below.refl _ _)
  have hp : 0 < s.size := by omega
  have hne : s.data.toList ≠ [] := fun e => by rw [e] at hl; simp at hl; omega
  have e0 : (s.toList == []) = false := by
    rw [Bool.eq_false_iff]; intro e
    rw [beq_iff_eq, ByteArray.toList_eq] at e
    exact hne e
  have hx := get0 hp
  obtain ⟨x, hxe⟩ : ∃ x, s[0] = x := ⟨_, rfl⟩
  rw [hxe] at hx
  have HX := Lib.hid hx
  clear hx hne h0
  by_cases h1 : 1 < s.size ∧ x.toNat = 48
  · have hi1 : (1 : Int) < ((s.size : Nat) : Int) := by omega
    have hi2 : (((s[0].toNat : Nat) : Int) == 48) = true := by rw [hxe, h1.2]; rfl
    have HN := Lib.hid (show rdec s.data.toList = none by
      rw [rdec, if_pos]
      exact .inr (.inl ⟨by omega, by rw [HX.out, show x = 48 from UInt8.toNat_inj.1 h1.2]⟩))
    clear h1 hxe
    go_enter Tryz.func32, Tryz.ntmps32
    go_wp2_with fail
    go_ret2
    exact retDecR_no HN.out _ (Below.refl _ _)
  by_cases h3 : x.toNat = 43
  · have hi2 : (((s[0].toNat : Nat) : Int) == 48) = false := by rw [hxe, h3]; rfl
    have hi3 : (((s[0].toNat : Nat) : Int) == 43) = true := by rw [hxe, h3]; rfl
    have HN := Lib.hid (show rdec s.data.toList = none by
      rw [rdec, if_pos]
      exact .inr (.inr (.inl (by rw [HX.out, show x = 43 from UInt8.toNat_inj.1 h3]))))
    clear h1 h3 hxe
    by_cases h5 : 1 < s.size
    · have hi1 : (1 : Int) < ((s.size : Nat) : Int) := by omega
      go_enter Tryz.func32, Tryz.ntmps32
      go_wp2_with fail
      go_ret2
      exact retDecR_no HN.out _ (Below.refl _ _)
    · have hi1 : ¬ (1 : Int) < ((s.size : Nat) : Int) := by omega
      go_enter Tryz.func32, Tryz.ntmps32
      go_wp2_with fail
      go_ret2
      exact retDecR_no HN.out _ (Below.refl _ _)
  by_cases h4 : x.toNat = 45
  · have hi2 : (((s[0].toNat : Nat) : Int) == 48) = false := by rw [hxe, h4]; rfl
    have hi3 : (((s[0].toNat : Nat) : Int) == 43) = false := by rw [hxe, h4]; rfl
    have hi4 : (((s[0].toNat : Nat) : Int) == 45) = true := by rw [hxe, h4]; rfl
    have HN := Lib.hid (show rdec s.data.toList = none by
      rw [rdec, if_pos]
      exact .inr (.inr (.inr (by rw [HX.out, show x = 45 from UInt8.toNat_inj.1 h4]))))
    clear h1 h3 h4 hxe
    by_cases h5 : 1 < s.size
    · have hi1 : (1 : Int) < ((s.size : Nat) : Int) := by omega
      go_enter Tryz.func32, Tryz.ntmps32
      go_wp2_with fail
      go_ret2
      exact retDecR_no HN.out _ (Below.refl _ _)
    · have hi1 : ¬ (1 : Int) < ((s.size : Nat) : Int) := by omega
      go_enter Tryz.func32, Tryz.ntmps32
      go_wp2_with fail
      go_ret2
      exact retDecR_no HN.out _ (Below.refl _ _)
  have hi3 : (((s[0].toNat : Nat) : Int) == 43) = false := by rw [hxe]; simp; omega
  have hi4 : (((s[0].toNat : Nat) : Int) == 45) = false := by rw [hxe]; simp; omega
  have HN := Lib.hid (show rdec s.data.toList = match Lib.parseIntB 64 s.data.toList with | .ok n => some n | _ => none by
    rw [rdec, if_neg]
    case hnc =>
      rintro (h | ⟨h, h2⟩ | h | h)
      · rw [h] at hl; simp at hl; omega
      · rw [HX.out] at h2
        have := Option.some.inj h2
        exact h1 ⟨by omega, by rw [this]; rfl⟩
      · rw [HX.out] at h
        have := Option.some.inj h
        exact h3 (by rw [this]; rfl)
      · rw [HX.out] at h
        have := Option.some.inj h
        exact h4 (by rw [this]; rfl)
    all_goals (cases Lib.parseIntB 64 s.data.toList <;> rfl))
  have hg : Hid (∀ (e : Ending) (w' : World), ((∃ n, Lib.parseIntB 64 s.data.toList = .ok n ∧ e = .returned (.tuple #[.int .i64 n, .nilIface])) ∨ ((∀ n, Lib.parseIntB 64 s.data.toList ≠ .ok n) ∧ ∃ v t p, e = .returned (.tuple #[.int .i64 v, .iface t p]))) ∧ Below w.heap.size w w' → ((∃ n, rdec s.data.toList = some n ∧ e = .returned (.tuple #[.int .i64 n, .nilIface])) ∨ (rdec s.data.toList = none ∧ ∃ v t p, e = .returned (.tuple #[.int .i64 v, .iface t p]))) ∧ Below w.heap.size w w') := Lib.hid (by
    rintro e w' ⟨⟨n, hn, he⟩ | ⟨hn, he⟩, hb⟩
    · exact ⟨.inl ⟨n, by rw [HN.out, hn], he⟩, hb⟩
    · refine ⟨.inr ⟨?_, he⟩, hb⟩
      rw [HN.out]
      split
      · rename_i n hn2; exact absurd hn2 (hn n)
      · rfl)
  have hfin : (1 < s.size ∧ (((s[0].toNat : Nat) : Int) == 48) = false) ∨ ¬ 1 < s.size := by
    by_cases h5 : 1 < s.size
    · refine .inl ⟨h5, ?_⟩
      rw [hxe]; simp; intro h; exact h1 ⟨h5, by omega⟩
    · exact .inr h5
  clear h1 h3 h4 hxe
  rcases hfin with ⟨h5, hi2⟩ | h5
  · have hi1 : (1 : Int) < ((s.size : Nat) : Int) := by omega
    go_enter Tryz.func32, Tryz.ntmps32
    go_wp2_with fail
    refine (parse_any s w (by omega) HE.out).mono ?_
    intro e w1 h9
    obtain ⟨⟨n, hn, rfl⟩ | ⟨hn, v, t, p, rfl⟩, hb1⟩ := hg.out _ _ h9
    · have HN2 := Lib.hid hn
      have HB1 := Lib.hid hb1
      clear h9 hn hb1
      go_wp2_with fail
      go_quiet (fail)
      go_wp2_with fail
      go_ret2
      exact retDecR_yes HN2.out (HB1.out.trans (below_drewN _ _))
    · have HN2 := Lib.hid hn
      have HB1 := Lib.hid hb1
      clear h9 hn hb1
      go_wp2_with fail
      go_quiet (fail)
      go_wp2_with fail
      go_ret2
      exact retDecR_no HN2.out _ (HB1.out.trans (below_drewN _ _))
  · have hi1 : ¬ (1 : Int) < ((s.size : Nat) : Int) := by omega
    go_enter Tryz.func32, Tryz.ntmps32
    go_wp2_with fail
    refine (parse_any s w (by omega) HE.out).mono ?_
    intro e w1 h9
    obtain ⟨⟨n, hn, rfl⟩ | ⟨hn, v, t, p, rfl⟩, hb1⟩ := hg.out _ _ h9
    · have HN2 := Lib.hid hn
      have HB1 := Lib.hid hb1
      clear h9 hn hb1
      go_wp2_with fail
      go_quiet (fail)
      go_wp2_with fail
      go_ret2
      exact retDecR_yes HN2.out (HB1.out.trans (below_drewN _ _))
    · have HN2 := Lib.hid hn
      have HB1 := Lib.hid hb1
      clear h9 hn hb1
      go_wp2_with fail
      go_quiet (fail)
      go_wp2_with fail
      go_ret2
      exact retDecR_no HN2.out _ (HB1.out.trans (below_drewN _ _))

end Go.Proofs.YtlcglclojlffgaaGreatDoor
namespace Go.Proofs.YtlcglclojlffgaaGreatDoor
open Go.RowKit

/-- what readItem answers -/
def RetItR (w : World) (o : Option It) (e : Ending) (w' : World) : Prop :=
  ∃ x : It, e = .returned (.tuple #[itV x, .bool o.isSome]) ∧ (∀ y, o = some y → x = y) ∧ Below w.heap.size w w'
theorem retItR_no {w w' : World} {o : Option It} (h : o = none) (x : It) (hb : Below w.heap.size w w') : RetItR w o (.returned (.tuple #[itV x, .bool false])) w' := by
  subst h; exact ⟨x, rfl, fun n e => (by cases e), hb⟩
theorem retItR_yes {w w' : World} {o : Option It} {x : It} (h : o = some x) (hb : Below w.heap.size w w') : RetItR w o (.returned (.tuple #[itV x, .bool true])) w' := by
  subst h; exact ⟨x, rfl, fun n e => Option.some.inj e, hb⟩
theorem word_yes {a b : ByteArray} (h : a.data.toList = b.data.toList) : (a.toList == b.toList) = true := by
  rw [ByteArray.ext (Array.toList_inj.1 h)]; simp
theorem word_no {a b : ByteArray} (h : a.data.toList ≠ b.data.toList) : (a.toList == b.toList) = false := by
  rw [Bool.eq_false_iff]
  intro e
  rw [beq_iff_eq, ByteArray.toList_eq, ByteArray.toList_eq] at e
  exact h e
theorem word_sz (s : ByteArray) (c : UInt8) : (⟨(Lib.cut s.data.toList (⟨#[c]⟩ : ByteArray).data.toList).1.toArray⟩ : ByteArray).size ≤ s.size := by
  have h := (cut_len c s.data.toList).2
  have e := cut_word s.data.toList c
  have hm := h _ (List.mem_of_mem_head? (by rw [e]; exact rfl))
  show (Lib.cut s.data.toList [c]).1.toArray.size ≤ _
  simpa using hm

theorem ownI_new (w : World) : OwnI (w.alloc (.cells #[] 2 (0, 0))) w.heap.size (.slice (some ⟨w.heap.size, 0, none⟩) 0 0) [] := World.ownsRow_lit (base := w.heap.size) (size := 1) w #[] 0 (Nat.le_refl _) (by unfold maxLen; omega) rfl
theorem cntW_cases (w : List UInt8) : cntW w = 0 ∨ ∃ n : Nat, cntW w = (n : Int) ∧ (n = 5 ∨ n = 7) := by
  unfold cntW
  split
  · exact .inr ⟨7, rfl, .inr rfl⟩
  · split
    · exact .inr ⟨5, rfl, .inl rfl⟩
    · split
      · exact .inr ⟨5, rfl, .inl rfl⟩
      · exact .inl rfl

set_option maxRecDepth 100000 in
set_option maxHeartbeats 4000000 in
theorem readItem_any (s : ByteArray) (w : World) (hs : s.size ≤ 1048576) (hE : Env w) :
    Calls Tryz.prog 33 #[.string s] w (RetItR w (itemI s.data.toList)) := by
  have HE := Lib.hid hE
  obtain ⟨m, hm⟩ := hE.mx
  have HC := Lib.hid (fun w' h => Tryz.strings_Cut s ⟨#[32]⟩ m w' (by omega) h)
  have HM := Lib.hid (fun o => ((ba1 w o).cell (p := ⟨0, 0, none⟩) (lt_of_cell hm)).trans hm)
  have hws := word_sz s 32
  have hwd := cut_word s.data.toList 32
  obtain ⟨WD, hWD⟩ : ∃ WD : ByteArray, WD = ⟨(Lib.cut s.data.toList (⟨#[32]⟩ : ByteArray).data.toList).1.toArray⟩ := ⟨_, rfl⟩
  rw [← hWD] at HC hws
  have HWD := Lib.hid (show (cut 32 s.data.toList).head? = some WD.data.toList by rw [hwd, hWD])
  have HWZ := Lib.hid (show WD.size ≤ maxLen by unfold maxLen; omega)
  clear hE hm hWD hwd hws
  obtain ⟨O, hO⟩ : ∃ O, O = itemI s.data.toList := ⟨_, rfl⟩
  have HO := Lib.hid hO
  rw [← hO]
  clear hO
  obtain ⟨cn, hcn⟩ : ∃ cn : Int, cntW WD.data.toList = cn := ⟨_, rfl⟩
  have HCN := Lib.hid hcn
  clear hcn
  have hmm := @run_makeMap Tryz.prog
  have K00 := Lib.hid (push_at w (.cells #[.int .i64 0, .int .i64 0, .int .i64 0, .int .i64 0, .int .i64 0, .int .i64 0, .string ⟨#[]⟩, .int .i64 0, .string ⟨#[]⟩] 49 (0, 0)))
  go_enter Tryz.func33, Tryz.ntmps33
  go_wp2_with fail
  refine (HC.out _ (HM.out _)).mono ?_
  rintro e w1 ⟨rfl, nn, rfl⟩
  obtain ⟨W, hW⟩ : ∃ W, W = (w.alloc (.cells #[.int .i64 0, .int .i64 0, .int .i64 0, .int .i64 0, .int .i64 0, .int .i64 0, .string ⟨#[]⟩, .int .i64 0, .string ⟨#[]⟩] 49 (0, 0))).drewN nn := ⟨_, rfl⟩
  have HB := Lib.hid (show Below w.heap.size w W by rw [hW]; exact (ba1 _ _).trans (below_drewN _ _))
  have K0 := Lib.hid (show W.heap[w.heap.size]? = some (.cells #[.int .i64 0, .int .i64 0, .int .i64 0, .int .i64 0, .int .i64 0, .int .i64 0, .string ⟨#[]⟩, .int .i64 0, .string ⟨#[]⟩] 49 (0, 0)) by rw [hW]; exact K00.out)
  have hWs : W.heap.size = w.heap.size + 1 := by rw [hW]; simp [World.drewN]
  rw [← hW]
  obtain ⟨w2, w3, w4, r1, r2, r3, hb4, hlk⟩ := words_map W
  have HB4 := Lib.hid (bt0 HB.out hb4 (by omega))
  have K4 := Lib.hid (blkK hb4 K0.out)
  have HLK := Lib.hid (fun wx (hx : Below w4.heap.size w4 wx) => hlk wx hx WD HWZ.out)
  have hl4 := HLK.out w4 (Below.refl _ _)
  rw [HCN.out] at hl4 HLK
  have HWS := Lib.hid hWs
  have HZ4 := Lib.hid hb4.size
  clear hW hlk hb4 hWs K00
  have hcc := cntW_cases WD.data.toList
  rw [HCN.out] at hcc
  rcases hcc with rfl | ⟨n, rfl, hn⟩
  · have HN := Lib.hid (HO.out.trans (itemI_word HWD.out HCN.out))
    go_wp2_with fail
    refine (splitN_zero _ _ _).mono ?_
    rintro e w5 ⟨rfl, rfl⟩
    obtain ⟨hc4, hf4⟩ := heap_cellR K4.out
    have hlt4 := blkLt K4.out
    go_wp2_with fail
    refine bodyPost_ret (v := .tuple #[.agg #[.int .i64 0, .int .i64 0, .int .i64 0, .int .i64 0, .int .i64 0, .int .i64 0, .string ⟨#[]⟩, .int .i64 0, .string ⟨#[]⟩], .bool false]) (by simp [results, Tryz.results33, go_sem, hc4]) rfl (retItR_no HN.out ⟨0, 0, 0, 0, 0, 0, ⟨#[]⟩, 0, ⟨#[]⟩⟩ ?_)
    iterate 9 (refine Below.setCell ?_ (by dsimp only; omega) _)
    exact HB4.out
  have hn0 : n ≠ 0 := by omega
  have HCS := Lib.hid (itemI_len HWD.out HCN.out hn0)
  go_wp2_with fail
  refine (splitN_any s 32 n _ hs (by omega) (by omega) (HE.out.next HB4.out)).mono ?_
  rintro e w5 ⟨ss, cp, hss, rfl, hst, hb5, hcp⟩
  have HSS := Lib.hid hss
  have HST := Lib.hid hst
  have HB5 := Lib.hid (bt0 HB4.out hb5 (Nat.le_refl _))
  have K5 := Lib.hid (blkK hb5 K4.out)
  have hl5 := HLK.out w5 hb5
  have hlen := congrArg List.length hss
  rw [bytesL, List.length_map] at hlen
  have HLN := Lib.hid hlen
  have HLZ := Lib.hid (show ∀ z ∈ ss, z.size ≤ 1048576 from fun z hz => Nat.le_trans ((cutN_len 32 (n - 1) s.data.toList).2.2 _ (by rw [← hss]; exact List.mem_map.2 ⟨z, hz, rfl⟩)) hs)
  have hw45 : w4.heap.size < w5.heap.size := by
    have h1 := (cutN_len 32 (n - 1) s.data.toList).2.1
    obtain ⟨b0, o0, e0, hc0⟩ := hst 0 (by rw [hlen]; exact h1)
    simp only [Option.some.injEq, Addr.mk.injEq, and_true] at e0
    obtain ⟨rfl, rfl⟩ := e0
    exact lt_of_cell hc0
  clear hss hst hb5 hlen hl4
  have hni : ((n : Int) == 0) = false := by simp; omega
  by_cases hsn : ss.length = n
  rotate_left
  · have HN := Lib.hid (HO.out.trans (HCS.out (by rw [← HLN.out]; exact hsn)))
    have hsi : ((ss.length : Int) != (n : Int)) = true := by simp; omega
    obtain ⟨hc5, hf5⟩ := heap_cellR K5.out
    have hlt5 := blkLt K5.out
    go_wp2_with fail
    refine bodyPost_ret (v := .tuple #[.agg #[.int .i64 0, .int .i64 0, .int .i64 0, .int .i64 0, .int .i64 0, .int .i64 0, .string ⟨#[]⟩, .int .i64 0, .string ⟨#[]⟩], .bool false]) (by simp [results, Tryz.results33, go_sem, hc5]) rfl (retItR_no HN.out ⟨0, 0, 0, 0, 0, 0, ⟨#[]⟩, 0, ⟨#[]⟩⟩ ?_)
    iterate 9 (refine Below.setCell ?_ (by dsimp only; omega) _)
    exact HB5.out
  have hsi : ((ss.length : Int) != (n : Int)) = false := by simp; omega
  go_wp2_with fail
  go_loopw [9, 11, 12, 13, 46] (fun v _ _ _ i wr => ∃ (k : Nat) (ns : List Int), k ≤ 3 ∧ i = .int .i64 (k : Int) ∧ allO rdec (((bytesL ss).drop 1).take k) = some ns ∧ ns.length = k ∧ OwnI wr w5.heap.size v ns ∧ Below w5.heap.size w5 wr) (fun _ _ _ _ i _ => 3 - (intOf i).toNat)
  case atStart => exact ⟨0, [], by omega, rfl, rfl, rfl, ownI_new w5, ba1 _ _⟩
  case round =>
    obtain ⟨k, ns, hk, rfl, hall, hnl, ho, hb⟩ := hrel
    have HALL := Lib.hid hall
    have HNL := Lib.hid hnl
    have hnl3 : ns.length ≤ 3 := by omega
    have HBR := Lib.hid hb
    obtain ⟨a, c, rfl, -⟩ := ho.read
    have HO1 := Lib.hid ho
    have KR := Lib.hid (blkK hb K5.out)
    have HZR := Lib.hid hb.size
    have HBW := Lib.hid (bt0 HB5.out hb (Nat.le_refl _))
    have HZ5 := Lib.hid HB5.out.size
    clear hall ho hb hnl
    obtain ⟨hcr, hfr⟩ := heap_cellR KR.out
    have hltr := blkLt KR.out
    by_cases hlt : k < 3
    · have hki : (k : Int) < 3 := by omega
      obtain ⟨b, o, z, ea, hzk, hbl, hcz⟩ := (HST.out.below HBR.out).at (k := k + 1) (by omega)
      simp only [Option.some.injEq, Addr.mk.injEq, and_true] at ea
      obtain ⟨rfl, rfl⟩ := ea
      rw [show 0 + (k + 1) = 1 + k by omega] at hcz
      have hzs := HLZ.out z (List.mem_of_getElem? hzk)
      have HPK := Lib.hid (show (bytesL ss)[k + 1]? = some z.data.toList by rw [bytesL, List.getElem?_map, hzk]; rfl)
      clear hzk
      go_wp2_with fail
      refine (readDecimal_any z _ hzs (HE.out.next HBW.out)).mono ?_
      rintro e w6 ⟨v, rfl, hv, hb6⟩
      have HV := Lib.hid hv
      have HB6 := Lib.hid (bt0 HBR.out hb6 (Nat.le_refl _))
      have HBW6 := Lib.hid (bt0 HBW.out hb6 (Nat.le_refl _))
      have HO6 := Lib.hid (HO1.out.grown hb6)
      have K6 := Lib.hid (blkK hb6 KR.out)
      have HZ6 := Lib.hid hb6.size
      clear hv hb6 hcz hcr hfr
      cases hd : rdec z.data.toList with
      | none =>
        have HN := Lib.hid (HO.out.trans (itemI_bad HWD.out HCN.out hn0 HSS.out (by rw [bytesL, List.length_map]; exact hsn) hlt HPK.out hd))
        have e9 : (none : Option Int).isSome = false := rfl
        rw [e9]
        obtain ⟨hc6, hf6⟩ := heap_cellR K6.out
        have hlt6 := blkLt K6.out
        clear hd e9
        go_wp2_with fail
        refine bodyPost_ret (v := .tuple #[.agg #[.int .i64 0, .int .i64 0, .int .i64 0, .int .i64 0, .int .i64 0, .int .i64 0, .string ⟨#[]⟩, .int .i64 0, .string ⟨#[]⟩], .bool false]) (by simp [results, Tryz.results33, go_sem, hc6]) rfl (retItR_no HN.out ⟨0, 0, 0, 0, 0, 0, ⟨#[]⟩, 0, ⟨#[]⟩⟩ ?_)
        iterate 9 (refine Below.setCell ?_ (by dsimp only; omega) _)
        exact HBW6.out
      | some u =>
        obtain rfl := HV.out u hd
        have HD := Lib.hid (allO_take (f := rdec) (show ((bytesL ss).drop 1)[k]? = some z.data.toList by rw [List.getElem?_drop, Nat.add_comm]; exact HPK.out) HALL.out hd)
        have e9 : (some v : Option Int).isSome = true := rfl
        rw [e9]
        clear hd e9
        have hz6 := HZ6.out
        have hz5 := HZR.out
        go_wp2_with (at_builtin; refine wpList_append_i1 (o := _) rfl (.tmp 58) (.tmp 60) 67 Tryz.underlying67 rfl w5.heap.size (.slice a ns.length c) ns v rfl (HO6.out.grown (ba1 _ _)) w6.heap.size rfl (push_at _ _) ?c3 ?c4 ?h8)
        case c3 => omega
        case c4 => simp; omega
        case h8 =>
        intro a8 c8 l8 w8 he8 ho8 _ hb8
        have HE8 := Lib.hid he8
        have HO8 := Lib.hid ho8
        have HB8 := Lib.hid ((bt0 HB6.out (ba1 _ _) (Nat.le_refl _)).trans hb8)
        have HL8 := Lib.hid (show l8.length = k + 1 by rw [he8, List.length_append, HNL.out]; rfl)
        clear he8 ho8 hb8
        go_wp2_with fail
        exact ⟨⟨k + 1, l8, by omega, by go_num, by rw [HE8.out]; exact HD.out, HL8.out, HO8.out, HB8.out⟩, by simp [intOf]; omega⟩
    · obtain rfl : k = 3 := by omega
      have hki : ¬ ((3 : Nat) : Int) < 3 := by omega
      obtain ⟨g, rfl, hgb, -, hgl⟩ := HO1.out.block (by rw [HNL.out]; omega)
      obtain ⟨x, y, z, rfl⟩ : ∃ x y z, ns = [x, y, z] := by
        match ns, HNL.out with
        | [x, y, z], _ => exact ⟨x, y, z, rfl⟩
      have hx0 : wr.cell? ⟨g, 0, none⟩ = some (.int .i64 x) := World.ownsRow.cellAt HO1.out 0 (by simp)
      have hx1 : wr.cell? ⟨g, 1, none⟩ = some (.int .i64 y) := World.ownsRow.cellAt HO1.out 1 (by simp)
      have hx2 : wr.cell? ⟨g, 2, none⟩ = some (.int .i64 z) := World.ownsRow.cellAt HO1.out 2 (by simp)
      have HAL := Lib.hid (show allO rdec (((bytesL ss).drop 1).take 3) = some [x, y, z] from HALL.out)
      have hl3 : ([x, y, z] : List Int).length = 3 := rfl
      clear HALL HNL hnl3
      go_wp2_with fail
      go_region
      obtain ⟨W9, hW9⟩ : ∃ W9, W9 = (wr.alloc (.cells #[.int .i64 0, .int .i64 x, .int .i64 y, .int .i64 0, .int .i64 0, .int .i64 0, .string ⟨#[]⟩, .int .i64 0, .string ⟨#[]⟩] 49 (0, 0))).drew := ⟨_, rfl⟩
      have HB9 := Lib.hid (show Below wr.heap.size wr W9 by rw [hW9]; exact (ba1 _ _).trans (below_drewN _ 1))
      have KX := Lib.hid (show W9.heap[wr.heap.size]? = some (.cells #[.int .i64 0, .int .i64 x, .int .i64 y, .int .i64 0, .int .i64 0, .int .i64 0, .string ⟨#[]⟩, .int .i64 0, .string ⟨#[]⟩] 49 (0, 0)) by rw [hW9]; exact push_at _ _)
      rw [← hW9]
      have K9 := Lib.hid (blkK HB9.out KR.out)
      have HBW9 := Lib.hid (bt0 HBW.out HB9.out (Nat.le_refl _))
      have hx2' : W9.cell? ⟨g, 2, none⟩ = some (.int .i64 z) := (HB9.out.cell (p := ⟨g, 2, none⟩) hgl).trans hx2
      have HST9 := Lib.hid ((HST.out.below HBR.out).below HB9.out)
      have hg9 : ¬ wr.heap.size = g := by omega
      have hw49 : ¬ wr.heap.size = w4.heap.size := by have := HZR.out; omega
      have hw9 : ¬ wr.heap.size = w.heap.size := by have := blkLt K4.out; have := HZR.out; omega
      have hw99 : ¬ w.heap.size = wr.heap.size := fun e => hw9 e.symm
      have hlX := blkLt KX.out
      have hl9 := blkLt K9.out
      have hg99 : g < W9.heap.size := by omega
      have h49 : w4.heap.size < W9.heap.size := by have := HZR.out; omega
      clear hx0 hx1 hx2 hW9 hcr hfr
      obtain ⟨hcX, hfX⟩ := heap_cellR KX.out
      obtain ⟨hc9, hf9⟩ := heap_cellR K9.out
      rcases cntW_pos HCN.out hn0 with ⟨rfl, hw | hw⟩ | ⟨rfl, hw⟩
      · obtain ⟨p0, p1, p2, p3, p4, rfl⟩ : ∃ p0 p1 p2 p3 p4, ss = [p0, p1, p2, p3, p4] := by
          match ss, hsn with
          | [p0, p1, p2, p3, p4], _ => exact ⟨p0, p1, p2, p3, p4, rfl⟩
        obtain ⟨b4, o4, e4, hp4⟩ := HST9.out 4 (by simp)
        simp only [Option.some.injEq, Addr.mk.injEq, and_true] at e4
        obtain ⟨rfl, rfl⟩ := e4
        have hp4 : W9.cell? ⟨w4.heap.size, 4, none⟩ = some (.string p4) := hp4
        have HN := Lib.hid (HO.out.trans (itemI_txt (by rw [← hw]; exact HWD.out) HSS.out.symm HAL.out))
        have hq1 : (WD.toList == [116, 101, 120, 116]) = true := by simpa using word_yes (b := ⟨#[116, 101, 120, 116]⟩) hw
        clear hw
        go_wp2_with fail
        go_region
        go_wp2_with fail
        refine bodyPost_ret (v := .tuple #[.agg #[.int .i64 1, .int .i64 x, .int .i64 y, .int .i64 z, .int .i64 0, .int .i64 0, .string ⟨#[]⟩, .int .i64 0, .string p4], .bool true]) (by simp [results, Tryz.results33, go_sem, hc9]) rfl (retItR_yes (x := ⟨1, x, y, z, 0, 0, ⟨#[]⟩, 0, p4⟩) (HN.out.trans (by rw [ba_list])) ?_)
        refine Below.trans ?_ (below_drewN _ 1)
        iterate 12 (refine Below.setCell ?_ (by dsimp only; omega) _)
        exact HBW9.out
      · obtain ⟨p0, p1, p2, p3, p4, rfl⟩ : ∃ p0 p1 p2 p3 p4, ss = [p0, p1, p2, p3, p4] := by
          match ss, hsn with
          | [p0, p1, p2, p3, p4], _ => exact ⟨p0, p1, p2, p3, p4, rfl⟩
        obtain ⟨b4, o4, e4, hp4⟩ := HST9.out 4 (by simp)
        simp only [Option.some.injEq, Addr.mk.injEq, and_true] at e4
        obtain ⟨rfl, rfl⟩ := e4
        have hp4 : W9.cell? ⟨w4.heap.size, 4, none⟩ = some (.string p4) := hp4
        have hps := HLZ.out p4 (by simp)
        have HY := Lib.hid (fun u (hu : rdec p4.data.toList = some u) => HO.out.trans (itemI_lin (by rw [← hw]; exact HWD.out) HSS.out.symm HAL.out hu))
        have HNo := Lib.hid (fun (hu : rdec p4.data.toList = none) => HO.out.trans (itemI_lin_no (by rw [← hw]; exact HWD.out) HSS.out.symm hu))
        have hq1 : (WD.toList == [116, 101, 120, 116]) = false := by
          have h := word_no (a := WD) (b := ⟨#[116, 101, 120, 116]⟩) (by rw [hw]; decide)
          simpa using h
        have hq2 : (WD.toList == [108, 105, 110, 101]) = true := by simpa using word_yes (b := ⟨#[108, 105, 110, 101]⟩) hw
        clear hw
        go_wp2_with fail
        go_region
        obtain ⟨WA, hWA⟩ : ∃ WA, WA = ((W9.setCell ⟨wr.heap.size, 0, none⟩ (.int .i64 2)).setCell ⟨wr.heap.size, 4, none⟩ (.int .i64 z)).drew := ⟨_, rfl⟩
        rw [← hWA]
        have KXA := Lib.hid (show WA.heap[wr.heap.size]? = some (.cells #[.int .i64 2, .int .i64 x, .int .i64 y, .int .i64 0, .int .i64 z, .int .i64 0, .string ⟨#[]⟩, .int .i64 0, .string ⟨#[]⟩] 49 (0, 0)) by rw [hWA]; exact src_set (src_set KX.out 0 _) 4 _)
        have hpA : WA.cell? ⟨w4.heap.size, 4, none⟩ = some (.string p4) := by
          rw [hWA]
          exact ((World.cell?_setCell_far _ _ _ _ (fun e => hw49 e)).trans ((World.cell?_setCell_far _ _ _ _ (fun e => hw49 e)).trans hp4))
        have KA := Lib.hid (show WA.heap[w.heap.size]? = some (.cells #[.int .i64 0, .int .i64 0, .int .i64 0, .int .i64 0, .int .i64 0, .int .i64 0, .string ⟨#[]⟩, .int .i64 0, .string ⟨#[]⟩] 49 (0, 0)) by
          rw [hWA]
          exact ((heap_setCell_other _ _ _ _ (fun e => hw99 e)).trans ((heap_setCell_other _ _ _ _ (fun e => hw99 e)).trans K9.out)))
        have HBA := Lib.hid (show Below w.heap.size w WA by
          rw [hWA]
          refine Below.trans ?_ (below_drewN _ 1)
          iterate 2 (refine Below.setCell ?_ (by dsimp only; omega) _)
          exact HBW9.out)
        have hlA := blkLt KXA.out
        have h4A : w4.heap.size < WA.heap.size := lt_of_cell hpA
        clear hc9 hf9 hcX hfX hWA hx2'
        go_wp2_with fail
        refine (readDecimal_any p4 _ hps (HE.out.next HBA.out)).mono ?_
        rintro e wB ⟨v, rfl, hv, hb⟩
        have HV := Lib.hid hv
        have KXB := Lib.hid (blkK hb KXA.out)
        have KB := Lib.hid (blkK hb KA.out)
        have HBB := Lib.hid (bt0 HBA.out hb (Nat.le_refl _))
        clear hv hb hpA
        obtain ⟨hcX, hfX⟩ := heap_cellR KXB.out
        obtain ⟨hc9, hf9⟩ := heap_cellR KB.out
        have hlB := blkLt KXB.out
        have hlBr := blkLt KB.out
        cases hd : rdec p4.data.toList with
        | none =>
          have HN := Lib.hid (HNo.out hd)
          have e9 : (none : Option Int).isSome = false := rfl
          rw [e9]
          clear hd e9
          go_wp2_with fail
          refine bodyPost_ret (v := .tuple #[.agg #[.int .i64 2, .int .i64 x, .int .i64 y, .int .i64 0, .int .i64 z, .int .i64 v, .string ⟨#[]⟩, .int .i64 0, .string ⟨#[]⟩], .bool false]) (by simp [results, Tryz.results33, go_sem, hc9]) rfl (retItR_no HN.out ⟨2, x, y, 0, z, v, ⟨#[]⟩, 0, ⟨#[]⟩⟩ ?_)
          iterate 10 (refine Below.setCell ?_ (by dsimp only; omega) _)
          exact HBB.out
        | some u =>
          obtain rfl := HV.out u hd
          have HN := Lib.hid (HY.out _ hd)
          have e9 : (some v : Option Int).isSome = true := rfl
          rw [e9]
          clear hd e9
          go_wp2_with fail
          refine bodyPost_ret (v := .tuple #[.agg #[.int .i64 2, .int .i64 x, .int .i64 y, .int .i64 0, .int .i64 z, .int .i64 v, .string ⟨#[]⟩, .int .i64 0, .string ⟨#[]⟩], .bool true]) (by simp [results, Tryz.results33, go_sem, hc9]) rfl (retItR_yes (x := ⟨2, x, y, 0, z, v, ⟨#[]⟩, 0, ⟨#[]⟩⟩) (HN.out) ?_)
          iterate 10 (refine Below.setCell ?_ (by dsimp only; omega) _)
          exact HBB.out
      · obtain ⟨p0, p1, p2, p3, p4, p5, p6, rfl⟩ : ∃ p0 p1 p2 p3 p4 p5 p6, ss = [p0, p1, p2, p3, p4, p5, p6] := by
          match ss, hsn with
          | [p0, p1, p2, p3, p4, p5, p6], _ => exact ⟨p0, p1, p2, p3, p4, p5, p6, rfl⟩
        obtain ⟨b4, o4, e4, hp4⟩ := HST9.out 4 (by simp)
        simp only [Option.some.injEq, Addr.mk.injEq, and_true] at e4
        obtain ⟨rfl, rfl⟩ := e4
        obtain ⟨b4, o4, e4, hp5⟩ := HST9.out 5 (by simp)
        simp only [Option.some.injEq, Addr.mk.injEq, and_true] at e4
        obtain ⟨rfl, rfl⟩ := e4
        obtain ⟨b4, o4, e4, hp6⟩ := HST9.out 6 (by simp)
        simp only [Option.some.injEq, Addr.mk.injEq, and_true] at e4
        obtain ⟨rfl, rfl⟩ := e4
        have hp4 : W9.cell? ⟨w4.heap.size, 4, none⟩ = some (.string p4) := hp4
        have hp5 : W9.cell? ⟨w4.heap.size, 5, none⟩ = some (.string p5) := hp5
        have hp6 : W9.cell? ⟨w4.heap.size, 6, none⟩ = some (.string p6) := hp6
        have hps := HLZ.out p5 (by simp)
        have HY := Lib.hid (fun u (hu : rdec p5.data.toList = some u) => HO.out.trans (itemI_sym (by rw [← hw]; exact HWD.out) HSS.out.symm HAL.out hu))
        have HNo := Lib.hid (fun (hu : rdec p5.data.toList = none) => HO.out.trans (itemI_sym_no (by rw [← hw]; exact HWD.out) HSS.out.symm hu))
        have hq1 : (WD.toList == [116, 101, 120, 116]) = false := by
          have h := word_no (a := WD) (b := ⟨#[116, 101, 120, 116]⟩) (by rw [hw]; decide)
          simpa using h
        have hq2 : (WD.toList == [108, 105, 110, 101]) = false := by
          have h := word_no (a := WD) (b := ⟨#[108, 105, 110, 101]⟩) (by rw [hw]; decide)
          simpa using h
        have hq3 : (WD.toList == [115, 121, 109, 98, 111, 108]) = true := by simpa using word_yes (b := ⟨#[115, 121, 109, 98, 111, 108]⟩) hw
        clear hw
        go_wp2_with fail
        go_region
        obtain ⟨WA, hWA⟩ : ∃ WA, WA = ((((W9.setCell ⟨wr.heap.size, 0, none⟩ (.int .i64 3)).setCell ⟨wr.heap.size, 3, none⟩ (.int .i64 z)).setCell ⟨wr.heap.size, 6, none⟩ (.string p4)).setCell ⟨wr.heap.size, 8, none⟩ (.string p6)).drew := ⟨_, rfl⟩
        rw [← hWA]
        have KXA := Lib.hid (show WA.heap[wr.heap.size]? = some (.cells #[.int .i64 3, .int .i64 x, .int .i64 y, .int .i64 z, .int .i64 0, .int .i64 0, .string p4, .int .i64 0, .string p6] 49 (0, 0)) by rw [hWA]; exact src_set (src_set (src_set (src_set KX.out 0 _) 3 _) 6 _) 8 _)
        have hpA : WA.cell? ⟨w4.heap.size, 5, none⟩ = some (.string p5) := by
          rw [hWA]
          exact ((World.cell?_setCell_far _ _ _ _ (fun e => hw49 e)).trans ((World.cell?_setCell_far _ _ _ _ (fun e => hw49 e)).trans ((World.cell?_setCell_far _ _ _ _ (fun e => hw49 e)).trans ((World.cell?_setCell_far _ _ _ _ (fun e => hw49 e)).trans hp5))))
        have KA := Lib.hid (show WA.heap[w.heap.size]? = some (.cells #[.int .i64 0, .int .i64 0, .int .i64 0, .int .i64 0, .int .i64 0, .int .i64 0, .string ⟨#[]⟩, .int .i64 0, .string ⟨#[]⟩] 49 (0, 0)) by
          rw [hWA]
          exact ((heap_setCell_other _ _ _ _ (fun e => hw99 e)).trans ((heap_setCell_other _ _ _ _ (fun e => hw99 e)).trans ((heap_setCell_other _ _ _ _ (fun e => hw99 e)).trans ((heap_setCell_other _ _ _ _ (fun e => hw99 e)).trans K9.out)))))
        have HBA := Lib.hid (show Below w.heap.size w WA by
          rw [hWA]
          refine Below.trans ?_ (below_drewN _ 1)
          iterate 4 (refine Below.setCell ?_ (by dsimp only; omega) _)
          exact HBW9.out)
        have hlA := blkLt KXA.out
        have h4A : w4.heap.size < WA.heap.size := lt_of_cell hpA
        clear hc9 hf9 hcX hfX hWA hx2'
        go_wp2_with fail
        refine (readDecimal_any p5 _ hps (HE.out.next HBA.out)).mono ?_
        rintro e wB ⟨v, rfl, hv, hb⟩
        have HV := Lib.hid hv
        have KXB := Lib.hid (blkK hb KXA.out)
        have KB := Lib.hid (blkK hb KA.out)
        have HBB := Lib.hid (bt0 HBA.out hb (Nat.le_refl _))
        clear hv hb hpA
        obtain ⟨hcX, hfX⟩ := heap_cellR KXB.out
        obtain ⟨hc9, hf9⟩ := heap_cellR KB.out
        have hlB := blkLt KXB.out
        have hlBr := blkLt KB.out
        cases hd : rdec p5.data.toList with
        | none =>
          have HN := Lib.hid (HNo.out hd)
          have e9 : (none : Option Int).isSome = false := rfl
          rw [e9]
          clear hd e9
          go_wp2_with fail
          refine bodyPost_ret (v := .tuple #[.agg #[.int .i64 3, .int .i64 x, .int .i64 y, .int .i64 z, .int .i64 0, .int .i64 0, .string p4, .int .i64 v, .string p6], .bool false]) (by simp [results, Tryz.results33, go_sem, hc9]) rfl (retItR_no HN.out ⟨3, x, y, z, 0, 0, p4, v, p6⟩ ?_)
          iterate 10 (refine Below.setCell ?_ (by dsimp only; omega) _)
          exact HBB.out
        | some u =>
          obtain rfl := HV.out u hd
          have HN := Lib.hid (HY.out _ hd)
          have e9 : (some v : Option Int).isSome = true := rfl
          rw [e9]
          clear hd e9
          go_wp2_with fail
          refine bodyPost_ret (v := .tuple #[.agg #[.int .i64 3, .int .i64 x, .int .i64 y, .int .i64 z, .int .i64 0, .int .i64 0, .string p4, .int .i64 v, .string p6], .bool true]) (by simp [results, Tryz.results33, go_sem, hc9]) rfl (retItR_yes (x := ⟨3, x, y, z, 0, 0, p4, v, p6⟩) (HN.out.trans (by rw [ba_list, ba_list])) ?_)
          iterate 10 (refine Below.setCell ?_ (by dsimp only; omega) _)
          exact HBB.out

end Go.Proofs.YtlcglclojlffgaaGreatDoor
namespace Go.Proofs.YtlcglclojlffgaaGreatDoor
open Go.RowKit

/-- numbers, or none -/
def RetNmS (w : World) (o : Option (List Int)) (e : Ending) (w' : World) : Prop :=
  Below w.heap.size w w' ∧ ((∃ ns a c, o = some ns ∧ e = .returned (.tuple #[.slice a ns.length c, .bool true]) ∧ OwnI w' w.heap.size (.slice a ns.length c) ns) ∨
    (o = none ∧ e = .returned (.tuple #[.slice none 0 0, .bool false])))

set_option maxRecDepth 100000 in
set_option maxHeartbeats 4000000 in
theorem l29Numbers_any (a : Option Addr) (ss : List ByteArray) (c : Nat) (w : World) (hx : StrsAt w a ss) (hz : ∀ z ∈ ss, z.size ≤ 1048576) (hl : ss.length ≤ 1048577) :
    Calls Tryz.prog 38 #[.slice a ss.length c] w (RetNmS w (allO valS (bytesL ss))) := by
  have HX := Lib.hid hx
  have HZ := Lib.hid hz
  clear hx hz
  go_enter Tryz.func38, Tryz.ntmps38
  go_wp2_with fail
  go_loopw [4, 5, 6, 7] (fun v i _ _ wr => ∃ (k : Nat) (ns : List Int), k ≤ ss.length ∧ i = .int .i64 (k : Int) ∧ allO valS ((bytesL ss).take k) = some ns ∧ OwnI wr w.heap.size v ns ∧ Below w.heap.size w wr) (fun _ i _ _ _ => ss.length - (intOf i).toNat)
  case atStart => exact ⟨0, [], Nat.zero_le _, rfl, rfl, ownI_new w, ba1 _ _⟩
  case round =>
    obtain ⟨k, ns, hk, rfl, hall, ho, hb⟩ := hrel
    obtain ⟨a1, c1, rfl, -⟩ := ho.read
    have HNL := Lib.hid (show ns.length ≤ 1048577 by have h := allO_len hall; rw [List.length_take] at h; omega)
    have HALL := Lib.hid hall
    have HO := Lib.hid ho
    have HB := Lib.hid hb
    have HBS := Lib.hid hb.size
    clear hall ho hb
    by_cases hlt : k < ss.length
    · have hki : (k : Int) < (ss.length : Int) := by omega
      obtain ⟨b, o, z, rfl, hzk, hbl, hcz⟩ := (HX.out.below HB.out).at hlt
      have hzs := HZ.out z (List.mem_of_getElem? hzk)
      have HPK := Lib.hid (show (bytesL ss)[k]? = some z.data.toList by rw [bytesL, List.getElem?_map, hzk]; rfl)
      clear hzk
      go_wp2_with fail
      refine (l01Value_any z _ hzs).mono ?_
      rintro e w2 ⟨v, rfl, hv, ⟨hv0, hv1⟩, hb2⟩
      have HV := Lib.hid hv
      have HB2 := Lib.hid (bt0 HB.out hb2 (Nat.le_refl _))
      have HO2 := Lib.hid (HO.out.grown hb2)
      have HBS2 := Lib.hid hb2.size
      clear hv hb2 hcz
      cases hd : valS z.data.toList with
      | none =>
        have HN := Lib.hid (allO_bad (f := valS) (List.mem_of_getElem? HPK.out) hd)
        have e9 : (none : Option Int).isSome = false := rfl
        rw [e9]
        clear hd e9
        go_wp2_with fail
        go_ret2
        exact ⟨HB2.out, .inr ⟨HN.out, rfl⟩⟩
      | some u =>
        obtain rfl := HV.out u hd
        have HD := Lib.hid (allO_take HPK.out HALL.out hd)
        have e9 : (some v : Option Int).isSome = true := rfl
        rw [e9]
        clear hd e9
        have hs1 := HBS.out
        have hs2 := HBS2.out
        have hnl := HNL.out
        go_wp2_with (at_builtin; refine wpList_append_i1 (o := _) rfl (.tmp 25) (.tmp 27) 67 Tryz.underlying67 rfl w.heap.size (.slice a1 ns.length c1) ns v rfl (HO2.out.grown (ba1 _ _)) w2.heap.size rfl (push_at _ _) ?c3 ?c4 ?h8)
        case c3 => omega
        case c4 => simp; omega
        case h8 =>
        intro a8 c8 l8 w8 he8 ho8 _ hb8
        have HE8 := Lib.hid he8
        have HO8 := Lib.hid ho8
        have HB8 := Lib.hid ((bt0 HB2.out (ba1 _ _) (Nat.le_refl _)).trans hb8)
        clear he8 ho8 hb8
        go_wp2_with fail
        exact ⟨⟨k + 1, l8, by omega, by go_num, by rw [HE8.out]; exact HD.out, HO8.out, HB8.out⟩, by simp [intOf]; omega⟩
    · have hki : ¬ (k : Int) < (ss.length : Int) := by omega
      have HN := Lib.hid (show allO valS (bytesL ss) = some ns by have h := HALL.out; rwa [List.take_of_length_le (by rw [bytesL, List.length_map]; omega)] at h)
      go_wp2_with fail
      go_ret2
      exact ⟨HB.out, .inl ⟨ns, a1, c1, HN.out, rfl, HO.out⟩⟩

/-- the parts of what the reference reads of a line -/
theorem itemS_short {l : List UInt8} (h : (cutN 32 1 l).length ≠ 2) : itemS l = none := by
  rw [itemS]
  split
  · next he => rw [he] at h; exact absurd rfl h
  · rfl
theorem itemS_other {l k r : List UInt8} (h : cutN 32 1 l = [k, r]) (h1 : k ≠ wLin) (h2 : k ≠ wSym) (h3 : k ≠ wTxt) : itemS l = none := by
  rw [itemS, h]
  simp only [if_neg h1, if_neg h2, if_neg h3]
theorem itemS_lin {l r : List UInt8} {a b c d : Int} (h : cutN 32 1 l = [wLin, r]) (hv : allO valS (cut 32 r) = some [a, b, c, d]) : itemS l = some ⟨2, a, b, 0, c, d, ⟨#[]⟩, 0, ⟨#[]⟩⟩ := by
  rw [itemS, h]
  simp only [if_true, valsS_all, hv]
theorem itemS_lin_no {l r : List UInt8} (h : cutN 32 1 l = [wLin, r]) (hv : ∀ ns, allO valS (cut 32 r) = some ns → ns.length ≠ 4) : itemS l = none := by
  rw [itemS, h]
  simp only [if_true, valsS_all]
  split
  · next he => exact absurd rfl (hv _ he)
  · rfl
theorem itemS_txt {l r a b c t : List UInt8} {x y z : Int} (h : cutN 32 1 l = [wTxt, r]) (hr : cutN 32 3 r = [a, b, c, t]) (hv : allO valS [a, b, c] = some [x, y, z]) : itemS l = some ⟨1, x, y, z, 0, 0, ⟨#[]⟩, 0, ⟨t.toArray⟩⟩ := by
  rw [itemS, h]
  simp only [show ¬ wTxt = wLin by decide, show ¬ wTxt = wSym by decide, if_false, if_true, hr, valsS_all, hv]
theorem itemS_txt_short {l r : List UInt8} (h : cutN 32 1 l = [wTxt, r]) (hr : (cutN 32 3 r).length ≠ 4) : itemS l = none := by
  rw [itemS, h]
  simp only [show ¬ wTxt = wLin by decide, show ¬ wTxt = wSym by decide, if_false, if_true]
  split
  · next he => rw [he] at hr; exact absurd rfl hr
  · rfl
theorem itemS_txt_no {l r a b c t : List UInt8} (h : cutN 32 1 l = [wTxt, r]) (hr : cutN 32 3 r = [a, b, c, t]) (hv : allO valS [a, b, c] = none) : itemS l = none := by
  rw [itemS, h]
  simp only [show ¬ wTxt = wLin by decide, show ¬ wTxt = wSym by decide, if_false, if_true, hr, valsS_all, hv]
theorem itemS_sym {l r a b c n e t : List UInt8} {x y z u : Int} (h : cutN 32 1 l = [wSym, r]) (hr : cutN 32 5 r = [a, b, c, n, e, t]) (hv : allO valS [a, b, c] = some [x, y, z]) (hu : valS e = some u) : itemS l = some ⟨3, x, y, z, 0, 0, ⟨n.toArray⟩, u, ⟨t.toArray⟩⟩ := by
  rw [itemS, h]
  simp only [show ¬ wSym = wLin by decide, if_false, if_true, hr, valsS_all, hv, hu]
theorem itemS_sym_short {l r : List UInt8} (h : cutN 32 1 l = [wSym, r]) (hr : (cutN 32 5 r).length ≠ 6) : itemS l = none := by
  rw [itemS, h]
  simp only [show ¬ wSym = wLin by decide, if_false, if_true]
  split
  · next he => rw [he] at hr; exact absurd rfl hr
  · rfl
theorem itemS_sym_no {l r a b c n e t : List UInt8} (h : cutN 32 1 l = [wSym, r]) (hr : cutN 32 5 r = [a, b, c, n, e, t]) (hv : allO valS [a, b, c] = none) : itemS l = none := by
  rw [itemS, h]
  simp only [show ¬ wSym = wLin by decide, if_false, if_true, hr, valsS_all, hv]
theorem itemS_sym_lev {l r a b c n e t : List UInt8} (h : cutN 32 1 l = [wSym, r]) (hr : cutN 32 5 r = [a, b, c, n, e, t]) (hu : valS e = none) : itemS l = none := by
  rw [itemS, h]
  simp only [show ¬ wSym = wLin by decide, if_false, if_true, hr, valsS_all, hu]
  generalize allO valS [a, b, c] = A
  split <;> first | rfl | simp_all
theorem itemS_sz {l : List UInt8} {x : It} (h : itemS l = some x) : x.text.size ≤ l.length ∧ x.name.size ≤ l.length := by
  have hs : ∀ t : List UInt8, (⟨t.toArray⟩ : ByteArray).size = t.length := fun t => by show t.toArray.size = _; simp
  have h0 : (⟨#[]⟩ : ByteArray).size = 0 := rfl
  rw [itemS] at h
  split at h
  · next k r he =>
    have hr : r.length ≤ l.length := (cutN_len 32 1 l).2.2 _ (by rw [he]; simp)
    split at h
    · split at h
      · obtain rfl := Option.some.inj h
        dsimp only; rw [h0]; exact ⟨Nat.zero_le _, Nat.zero_le _⟩
      · cases h
    · split at h
      · split at h
        · next he2 =>
          have hl := (cutN_len 32 5 r).2.2
          split at h
          · obtain rfl := Option.some.inj h
            dsimp only
            rw [hs, hs]
            exact ⟨Nat.le_trans (hl _ (by rw [he2]; simp)) hr, Nat.le_trans (hl _ (by rw [he2]; simp)) hr⟩
          · cases h
        · cases h
      · split at h
        · split at h
          · next he2 =>
            have hl := (cutN_len 32 3 r).2.2
            split at h
            · obtain rfl := Option.some.inj h
              dsimp only
              rw [hs, h0]
              exact ⟨Nat.le_trans (hl _ (by rw [he2]; simp)) hr, Nat.zero_le _⟩
            · cases h
          · cases h
        · cases h
  · cases h

end Go.Proofs.YtlcglclojlffgaaGreatDoor
namespace Go.Proofs.YtlcglclojlffgaaGreatDoor
open Go.RowKit

theorem OwnS.capc {w : World} {base : Nat} {a : Option Addr} {n c : Nat} {zs : List ByteArray} (h : OwnS w base (.slice a n c) zs) : zs.length ≤ c := by
  rcases h.2 with ⟨_, h0⟩ | ⟨g, cap, cur, e, hb, hg, hn, _⟩
  · omega
  · injection e with _ _ e3
    omega
theorem strs_take {w : World} {a : Option Addr} {zs : List ByteArray} (h : StrsAt w a zs) (k : Nat) : StrsAt w a (zs.take k) := by
  intro i hi
  rw [List.length_take] at hi
  obtain ⟨b, o, e, hc⟩ := h i (by omega)
  exact ⟨b, o, e, by rw [hc, List.getElem_take]⟩

set_option maxRecDepth 100000 in
set_option maxHeartbeats 4000000 in
theorem l29Item_any (s : ByteArray) (w : World) (hs : s.size ≤ 1048576) :
    Calls Tryz.prog 39 #[.string s] w (RetItR w (itemS s.data.toList)) := by
  obtain ⟨O, hO⟩ : ∃ O, O = itemS s.data.toList := ⟨_, rfl⟩
  have HO := Lib.hid hO
  rw [← hO]
  clear hO
  have K0 := Lib.hid (push_at w (.cells #[.int .i64 0, .int .i64 0, .int .i64 0, .int .i64 0, .int .i64 0, .int .i64 0, .string ⟨#[]⟩, .int .i64 0, .string ⟨#[]⟩] 49 (0, 0)))
  have HB0 := Lib.hid (ba1 w (.cells #[.int .i64 0, .int .i64 0, .int .i64 0, .int .i64 0, .int .i64 0, .int .i64 0, .string ⟨#[]⟩, .int .i64 0, .string ⟨#[]⟩] 49 (0, 0)))
  go_enter Tryz.func39, Tryz.ntmps39
  go_wp2_with fail
  refine (l29Cut_any s 1 _ hs (by omega)).mono ?_
  rintro e w1 ⟨hb1, hr⟩
  have HB1 := Lib.hid (bt0 HB0.out hb1 (Nat.le_refl _))
  have K1 := Lib.hid (blkK hb1 K0.out)
  clear hb1
  obtain ⟨hc1, hf1⟩ := heap_cellR K1.out
  have hlt1 := blkLt K1.out
  rcases hr with ⟨ss, r, a1, c1, hcut, hn1, rfl, ho1⟩ | ⟨hno, rfl⟩
  rotate_left
  · have HN := Lib.hid (HO.out.trans (itemS_short hno))
    clear hno
    go_wp2_with fail
    refine bodyPost_ret (v := .tuple #[.agg #[.int .i64 0, .int .i64 0, .int .i64 0, .int .i64 0, .int .i64 0, .int .i64 0, .string ⟨#[]⟩, .int .i64 0, .string ⟨#[]⟩], .bool false]) (by simp [results, Tryz.results39, go_sem, hc1]) rfl (retItR_no HN.out ⟨0, 0, 0, 0, 0, 0, ⟨#[]⟩, 0, ⟨#[]⟩⟩ ?_)
    iterate 9 (refine Below.setCell ?_ (by dsimp only; omega) _)
    exact HB1.out
  obtain ⟨k0, rfl⟩ : ∃ k0, ss = [k0] := by
    match ss, hn1 with
    | [k0], _ => exact ⟨k0, rfl⟩
  have hcut2 : cutN 32 1 s.data.toList = [k0.data.toList, r.data.toList] := hcut
  have hrz : r.size ≤ 1048576 := Nat.le_trans ((cutN_len 32 1 s.data.toList).2.2 r.data.toList (by rw [hcut2]; simp)) hs
  have HC := Lib.hid hcut2
  have HS1 := Lib.hid ho1.strs
  have hlen1 : ([k0] : List ByteArray).length = 1 := rfl
  rw [hlen1]
  obtain ⟨b, hab, hk0⟩ : ∃ b, a1 = some ⟨b, 0, none⟩ ∧ w1.cell? ⟨b, 0, none⟩ = some (.string k0) := by
    obtain ⟨g, rfl, -, -, -⟩ := ho1.block (by simp)
    obtain ⟨b0, o0, e0, hc⟩ := ho1.strs 0 (by simp)
    simp only [Option.some.injEq, Addr.mk.injEq, and_true] at e0
    obtain ⟨rfl, rfl⟩ := e0
    exact ⟨g, rfl, hc⟩
  subst hab
  have hbl : b < w1.heap.size := lt_of_cell hk0
  clear hcut hcut2 hn1 hlen1 ho1
  by_cases hkl : k0.data.toList = wLin
  · have hq : (k0.toList == [108, 105, 110, 101]) = true := by simpa using word_yes (b := ⟨#[108, 105, 110, 101]⟩) hkl
    have HY := Lib.hid (fun a b c d hv => HO.out.trans (itemS_lin (l := s.data.toList) (r := r.data.toList) (a := a) (b := b) (c := c) (d := d) (by rw [HC.out, hkl]) hv))
    have HNo := Lib.hid (fun hv => HO.out.trans (itemS_lin_no (l := s.data.toList) (r := r.data.toList) (by rw [HC.out, hkl]) hv))
    clear hkl hc1 hf1
    go_wp2_with fail
    refine (l01Split_any r 32 _ hrz).mono ?_
    rintro e w2 ⟨ps, a2, c2, hps, rfl, ho2, hb2⟩
    have HPS := Lib.hid hps
    have HB2 := Lib.hid (bt0 HB1.out hb2 (Nat.le_refl _))
    have K2 := Lib.hid (blkK hb2 K1.out)
    have HS2 := Lib.hid ho2.strs
    have HPZ := Lib.hid (show ∀ z ∈ ps, z.size ≤ 1048576 from fun z hz => Nat.le_trans ((cut_len 32 r.data.toList).2 _ (by rw [← hps]; exact List.mem_map.2 ⟨z, hz, rfl⟩)) hrz)
    have hpl : ps.length ≤ 1048577 := by
      have h := congrArg List.length hps
      rw [bytesL, List.length_map] at h
      have h2 := (cut_len 32 r.data.toList).1
      have h3 : r.data.toList.length = r.size := rfl
      omega
    clear hps ho2 hb2 hk0
    go_wp2_with fail
    refine (l29Numbers_any a2 ps c2 w2 HS2.out HPZ.out hpl).mono ?_
    rintro e w3 ⟨hb3, hr⟩
    rw [HPS.out] at hr
    have HB3 := Lib.hid (bt0 HB2.out hb3 (Nat.le_refl _))
    have K3 := Lib.hid (blkK hb3 K2.out)
    clear hb3
    obtain ⟨hc3, hf3⟩ := heap_cellR K3.out
    have hlt3 := blkLt K3.out
    rcases hr with ⟨ns, a3, c3, hns, rfl, ho3⟩ | ⟨hno, rfl⟩
    rotate_left
    · have HN := Lib.hid (HNo.out (fun ns h => by rw [hno] at h; cases h))
      clear hno
      go_wp2_with fail
      refine bodyPost_ret (v := .tuple #[.agg #[.int .i64 0, .int .i64 0, .int .i64 0, .int .i64 0, .int .i64 0, .int .i64 0, .string ⟨#[]⟩, .int .i64 0, .string ⟨#[]⟩], .bool false]) (by simp [results, Tryz.results39, go_sem, hc3]) rfl (retItR_no HN.out ⟨0, 0, 0, 0, 0, 0, ⟨#[]⟩, 0, ⟨#[]⟩⟩ ?_)
      iterate 9 (refine Below.setCell ?_ (by dsimp only; omega) _)
      exact HB3.out
    by_cases h4 : ns.length = 4
    rotate_left
    · have HN := Lib.hid (HNo.out (fun ns' h => by rw [hns] at h; obtain rfl := Option.some.inj h; exact h4))
      have h4i : ((ns.length : Int) == 4) = false := by simp; omega
      clear hns h4
      go_wp2_with fail
      refine bodyPost_ret (v := .tuple #[.agg #[.int .i64 0, .int .i64 0, .int .i64 0, .int .i64 0, .int .i64 0, .int .i64 0, .string ⟨#[]⟩, .int .i64 0, .string ⟨#[]⟩], .bool false]) (by simp [results, Tryz.results39, go_sem, hc3]) rfl (retItR_no HN.out ⟨0, 0, 0, 0, 0, 0, ⟨#[]⟩, 0, ⟨#[]⟩⟩ ?_)
      iterate 9 (refine Below.setCell ?_ (by dsimp only; omega) _)
      exact HB3.out
    obtain ⟨na, nb, nc, nd, rfl⟩ : ∃ na nb nc nd, ns = [na, nb, nc, nd] := by
      match ns, h4 with
      | [na, nb, nc, nd], _ => exact ⟨na, nb, nc, nd, rfl⟩
    have HN := Lib.hid (HY.out _ _ _ _ hns)
    obtain ⟨g, rfl, hgb, -, hgl⟩ := ho3.block (by simp)
    have hx0 : w3.cell? ⟨g, 0, none⟩ = some (.int .i64 na) := World.ownsRow.cellAt ho3 0 (by simp)
    have hx1 : w3.cell? ⟨g, 1, none⟩ = some (.int .i64 nb) := World.ownsRow.cellAt ho3 1 (by simp)
    have hx2 : w3.cell? ⟨g, 2, none⟩ = some (.int .i64 nc) := World.ownsRow.cellAt ho3 2 (by simp)
    have hx3 : w3.cell? ⟨g, 3, none⟩ = some (.int .i64 nd) := World.ownsRow.cellAt ho3 3 (by simp)
    have hl4 : ([na, nb, nc, nd] : List Int).length = 4 := rfl
    have hgw : ¬ w.heap.size = g := by have := blkLt K2.out; omega
    rw [hl4]
    clear hns ho3 h4 hl4
    go_wp2_with fail
    go_region
    go_wp2_with fail
    refine bodyPost_ret (v := .tuple #[.agg #[.int .i64 2, .int .i64 na, .int .i64 nb, .int .i64 0, .int .i64 nc, .int .i64 nd, .string ⟨#[]⟩, .int .i64 0, .string ⟨#[]⟩], .bool true]) (by simp [results, Tryz.results39, go_sem, hc3]) rfl (retItR_yes (x := ⟨2, na, nb, 0, nc, nd, ⟨#[]⟩, 0, ⟨#[]⟩⟩) HN.out ?_)
    refine Below.trans ?_ (below_drewN _ 1)
    iterate 9 (refine Below.setCell ?_ (by dsimp only; omega) _)
    exact HB3.out
  have hq1 : (k0.toList == [108, 105, 110, 101]) = false := by
    have h := word_no (a := k0) (b := ⟨#[108, 105, 110, 101]⟩) hkl
    simpa using h
  by_cases hks : k0.data.toList = wSym
  · have hq2 : (k0.toList == [115, 121, 109, 98, 111, 108]) = true := by simpa using word_yes (b := ⟨#[115, 121, 109, 98, 111, 108]⟩) hks
    have HC2 := Lib.hid (show cutN 32 1 s.data.toList = [wSym, r.data.toList] by rw [HC.out, hks])
    clear hkl hks hc1 hf1
    go_wp2_with fail
    refine (l29Cut_any r 5 _ hrz (by omega)).mono ?_
    rintro e w2 ⟨hb2, hr⟩
    have HB2 := Lib.hid (bt0 HB1.out hb2 (Nat.le_refl _))
    have K2 := Lib.hid (blkK hb2 K1.out)
    have hk2 : w2.cell? ⟨b, 0, none⟩ = some (.string k0) := (hb2.cell (p := ⟨b, 0, none⟩) hbl).trans hk0
    have hbl2 : b < w2.heap.size := lt_of_cell hk2
    clear hb2 hk0
    obtain ⟨hc2, hf2⟩ := heap_cellR K2.out
    have hlt2 := blkLt K2.out
    rcases hr with ⟨ps, t, a2, c2, hcut, hn2, rfl, ho2⟩ | ⟨hno, rfl⟩
    rotate_left
    · have HN := Lib.hid (HO.out.trans (itemS_sym_short HC2.out hno))
      clear hno
      go_wp2_with fail
      refine bodyPost_ret (v := .tuple #[.agg #[.int .i64 0, .int .i64 0, .int .i64 0, .int .i64 0, .int .i64 0, .int .i64 0, .string ⟨#[]⟩, .int .i64 0, .string ⟨#[]⟩], .bool false]) (by simp [results, Tryz.results39, go_sem, hc2]) rfl (retItR_no HN.out ⟨0, 0, 0, 0, 0, 0, ⟨#[]⟩, 0, ⟨#[]⟩⟩ ?_)
      iterate 9 (refine Below.setCell ?_ (by dsimp only; omega) _)
      exact HB2.out
    obtain ⟨pa, pb, pc, pn, pe, rfl⟩ : ∃ pa pb pc pn pe, ps = [pa, pb, pc, pn, pe] := by
      match ps, hn2 with
      | [pa, pb, pc, pn, pe], _ => exact ⟨pa, pb, pc, pn, pe, rfl⟩
    have HCR := Lib.hid (show cutN 32 5 r.data.toList = [pa.data.toList, pb.data.toList, pc.data.toList, pn.data.toList, pe.data.toList, t.data.toList] from hcut)
    have HPZ := Lib.hid (show ∀ z ∈ [pa, pb, pc, pn, pe], z.size ≤ 1048576 from fun z hz => Nat.le_trans ((cutN_len 32 5 r.data.toList).2.2 z.data.toList (by rw [hcut]; exact List.mem_append_left _ (List.mem_map.2 ⟨z, hz, rfl⟩))) hrz)
    obtain ⟨g2, rfl, hgb2, -, hgl2⟩ := ho2.block (by simp)
    have hc5 : 5 ≤ c2 := ho2.capc
    have hc3i : ¬ (c2 : Int) < 3 := by omega
    have HS2 := Lib.hid ho2.strs
    have hlen2 : ([pa, pb, pc, pn, pe] : List ByteArray).length = 5 := rfl
    rw [hlen2]
    clear hcut hn2 hlen2 ho2 hc2 hf2
    go_wp2_with fail
    have HP3 := Lib.hid (show StrsAt w2 (some ⟨g2, 0, none⟩) [pa, pb, pc] from strs_take HS2.out 3)
    refine (l29Numbers_any (some ⟨g2, 0, none⟩) [pa, pb, pc] c2 w2 HP3.out (fun z hz => HPZ.out z (by simp only [List.mem_cons, List.not_mem_nil, or_false] at hz ⊢; rcases hz with rfl | rfl | rfl <;> simp)) (by simp)).mono ?_
    rintro e w3 ⟨hb3, hr⟩
    have HB3 := Lib.hid (bt0 HB2.out hb3 (Nat.le_refl _))
    have K3 := Lib.hid (blkK hb3 K2.out)
    have HS3 := Lib.hid (HS2.out.below hb3)
    have hgl3 : g2 < w3.heap.size := Nat.lt_of_lt_of_le hgl2 hb3.size
    clear hb3 hk2
    obtain ⟨hc3, hf3⟩ := heap_cellR K3.out
    have hlt3 := blkLt K3.out
    rcases hr with ⟨ns, a3, c3, hns, rfl, ho3⟩ | ⟨hno, rfl⟩
    rotate_left
    · have HN := Lib.hid (HO.out.trans (itemS_sym_no HC2.out HCR.out hno))
      clear hno
      go_wp2_with fail
      refine bodyPost_ret (v := .tuple #[.agg #[.int .i64 0, .int .i64 0, .int .i64 0, .int .i64 0, .int .i64 0, .int .i64 0, .string ⟨#[]⟩, .int .i64 0, .string ⟨#[]⟩], .bool false]) (by simp [results, Tryz.results39, go_sem, hc3]) rfl (retItR_no HN.out ⟨0, 0, 0, 0, 0, 0, ⟨#[]⟩, 0, ⟨#[]⟩⟩ ?_)
      iterate 9 (refine Below.setCell ?_ (by dsimp only; omega) _)
      exact HB3.out
    have h3 : ns.length = 3 := (allO_len hns).trans rfl
    obtain ⟨na, nb, nc, rfl⟩ : ∃ na nb nc, ns = [na, nb, nc] := by
      match ns, h3 with
      | [na, nb, nc], _ => exact ⟨na, nb, nc, rfl⟩
    have HNS := Lib.hid hns
    obtain ⟨g, rfl, hgb, -, hgl⟩ := ho3.block (by simp)
    have hx0 : w3.cell? ⟨g, 0, none⟩ = some (.int .i64 na) := World.ownsRow.cellAt ho3 0 (by simp)
    have hx1 : w3.cell? ⟨g, 1, none⟩ = some (.int .i64 nb) := World.ownsRow.cellAt ho3 1 (by simp)
    have hx2 : w3.cell? ⟨g, 2, none⟩ = some (.int .i64 nc) := World.ownsRow.cellAt ho3 2 (by simp)
    have hl3 : ([na, nb, nc] : List Int).length = 3 := rfl
    have hgw : ¬ w.heap.size = g := by have := blkLt K2.out; omega
    rw [hl3]
    clear hns h3 hl3
    go_wp2_with fail
    go_region
    obtain ⟨W9, hW9⟩ : ∃ W9, W9 = (w3.alloc (.cells #[.int .i64 1, .int .i64 na, .int .i64 nb, .int .i64 nc, .int .i64 0, .int .i64 0, .string ⟨#[]⟩, .int .i64 0, .string t] 49 (0, 0))).drew := ⟨_, rfl⟩
    rw [← hW9]
    have HB9' := Lib.hid (show Below w3.heap.size w3 W9 by rw [hW9]; exact (ba1 _ _).trans (below_drewN _ 1))
    have KX := Lib.hid (show W9.heap[w3.heap.size]? = some (.cells #[.int .i64 1, .int .i64 na, .int .i64 nb, .int .i64 nc, .int .i64 0, .int .i64 0, .string ⟨#[]⟩, .int .i64 0, .string t] 49 (0, 0)) by rw [hW9]; exact push_at _ _)
    have K9 := Lib.hid (blkK HB9'.out K3.out)
    have HB9 := Lib.hid (bt0 HB3.out HB9'.out (Nat.le_refl _))
    have HS9 := Lib.hid (HS3.out.below HB9'.out)
    have hw39 : ¬ w3.heap.size = w.heap.size := by omega
    have hw93 : ¬ w.heap.size = w3.heap.size := by omega
    have hlX := blkLt KX.out
    have hl9 := blkLt K9.out
    have HOI := Lib.hid (ho3.grown HB9'.out)
    clear hx0 hx1 hx2 hW9 hc3 hf3 ho3
    have hp4 : W9.cell? ⟨g2, 4, none⟩ = some (.string pe) := by
      obtain ⟨b0, o0, e0, hc⟩ := HS9.out 4 (by simp)
      simp only [Option.some.injEq, Addr.mk.injEq, and_true] at e0
      obtain ⟨rfl, rfl⟩ := e0
      exact hc
    have hg29 : g2 < W9.heap.size := lt_of_cell hp4
    go_wp2_with fail
    refine (l01Value_any pe _ (HPZ.out pe (by simp))).mono ?_
    rintro e wA ⟨v, rfl, hv, ⟨hv0, hv1⟩, hbA⟩
    have HV := Lib.hid hv
    have HBA := Lib.hid (bt0 HB9.out hbA (Nat.le_refl _))
    have KXA := Lib.hid (blkK hbA KX.out)
    have KA := Lib.hid (blkK hbA K9.out)
    have HOA := Lib.hid (HOI.out.grown hbA)
    have HSA := Lib.hid (HS9.out.below hbA)
    clear hv hbA hp4
    obtain ⟨hcX, hfX⟩ := heap_cellR KXA.out
    obtain ⟨hc9, hf9⟩ := heap_cellR KA.out
    have hlXA := blkLt KXA.out
    have hlA := blkLt KA.out
    cases hd : valS pe.data.toList with
    | none =>
      have HN := Lib.hid (HO.out.trans (itemS_sym_lev HC2.out HCR.out hd))
      have e9 : (none : Option Int).isSome = false := rfl
      rw [e9]
      clear hd e9
      go_wp2_with fail
      refine bodyPost_ret (v := .tuple #[.agg #[.int .i64 0, .int .i64 0, .int .i64 0, .int .i64 0, .int .i64 0, .int .i64 0, .string ⟨#[]⟩, .int .i64 0, .string ⟨#[]⟩], .bool false]) (by simp [results, Tryz.results39, go_sem, hc9]) rfl (retItR_no HN.out ⟨0, 0, 0, 0, 0, 0, ⟨#[]⟩, 0, ⟨#[]⟩⟩ ?_)
      iterate 9 (refine Below.setCell ?_ (by dsimp only; omega) _)
      exact HBA.out
    | some u =>
      obtain rfl := HV.out u hd
      have HN := Lib.hid (HO.out.trans (itemS_sym HC2.out HCR.out HNS.out hd))
      have e9 : (some v : Option Int).isSome = true := rfl
      rw [e9]
      have hx0 : wA.cell? ⟨g, 0, none⟩ = some (.int .i64 na) := World.ownsRow.cellAt HOA.out 0 (by simp)
      have hx1 : wA.cell? ⟨g, 1, none⟩ = some (.int .i64 nb) := World.ownsRow.cellAt HOA.out 1 (by simp)
      have hx2 : wA.cell? ⟨g, 2, none⟩ = some (.int .i64 nc) := World.ownsRow.cellAt HOA.out 2 (by simp)
      have hp3 : wA.cell? ⟨g2, 3, none⟩ = some (.string pn) := by
        obtain ⟨b0, o0, e0, hc⟩ := HSA.out 3 (by simp)
        simp only [Option.some.injEq, Addr.mk.injEq, and_true] at e0
        obtain ⟨rfl, rfl⟩ := e0
        exact hc
      have hg3 : ¬ w3.heap.size = g := by omega
      have hg23 : ¬ w3.heap.size = g2 := by omega
      have hglA : g < wA.heap.size := lt_of_cell hx0
      have hg2A : g2 < wA.heap.size := lt_of_cell hp3
      clear hd e9
      go_wp2_with fail
      go_region
      go_wp2_with fail
      refine bodyPost_ret (v := .tuple #[.agg #[.int .i64 3, .int .i64 na, .int .i64 nb, .int .i64 nc, .int .i64 0, .int .i64 0, .string pn, .int .i64 v, .string t], .bool true]) (by simp [results, Tryz.results39, go_sem, hc9]) rfl (retItR_yes (x := ⟨3, na, nb, nc, 0, 0, pn, v, t⟩) (HN.out.trans (by rw [ba_list, ba_list])) ?_)
      refine Below.trans ?_ (below_drewN _ 1)
      iterate 18 (refine Below.setCell ?_ (by dsimp only; omega) _)
      exact HBA.out
  have hq2 : (k0.toList == [115, 121, 109, 98, 111, 108]) = false := by
    have h := word_no (a := k0) (b := ⟨#[115, 121, 109, 98, 111, 108]⟩) hks
    simpa using h
  by_cases hkt : k0.data.toList = wTxt
  · have hq3 : (k0.toList == [116, 101, 120, 116]) = true := by simpa using word_yes (b := ⟨#[116, 101, 120, 116]⟩) hkt
    have HC2 := Lib.hid (show cutN 32 1 s.data.toList = [wTxt, r.data.toList] by rw [HC.out, hkt])
    clear hkl hks hkt hc1 hf1
    go_wp2_with fail
    refine (l29Cut_any r 3 _ hrz (by omega)).mono ?_
    rintro e w2 ⟨hb2, hr⟩
    have HB2 := Lib.hid (bt0 HB1.out hb2 (Nat.le_refl _))
    have K2 := Lib.hid (blkK hb2 K1.out)
    have hk2 : w2.cell? ⟨b, 0, none⟩ = some (.string k0) := (hb2.cell (p := ⟨b, 0, none⟩) hbl).trans hk0
    have hbl2 : b < w2.heap.size := lt_of_cell hk2
    clear hb2 hk0
    obtain ⟨hc2, hf2⟩ := heap_cellR K2.out
    have hlt2 := blkLt K2.out
    rcases hr with ⟨ps, t, a2, c2, hcut, hn2, rfl, ho2⟩ | ⟨hno, rfl⟩
    rotate_left
    · have HN := Lib.hid (HO.out.trans (itemS_txt_short HC2.out hno))
      clear hno
      go_wp2_with fail
      refine bodyPost_ret (v := .tuple #[.agg #[.int .i64 0, .int .i64 0, .int .i64 0, .int .i64 0, .int .i64 0, .int .i64 0, .string ⟨#[]⟩, .int .i64 0, .string ⟨#[]⟩], .bool false]) (by simp [results, Tryz.results39, go_sem, hc2]) rfl (retItR_no HN.out ⟨0, 0, 0, 0, 0, 0, ⟨#[]⟩, 0, ⟨#[]⟩⟩ ?_)
      iterate 9 (refine Below.setCell ?_ (by dsimp only; omega) _)
      exact HB2.out
    obtain ⟨pa, pb, pc, rfl⟩ : ∃ pa pb pc, ps = [pa, pb, pc] := by
      match ps, hn2 with
      | [pa, pb, pc], _ => exact ⟨pa, pb, pc, rfl⟩
    have HCR := Lib.hid (show cutN 32 3 r.data.toList = [pa.data.toList, pb.data.toList, pc.data.toList, t.data.toList] from hcut)
    have HPZ := Lib.hid (show ∀ z ∈ [pa, pb, pc], z.size ≤ 1048576 from fun z hz => Nat.le_trans ((cutN_len 32 3 r.data.toList).2.2 z.data.toList (by rw [hcut]; exact List.mem_append_left _ (List.mem_map.2 ⟨z, hz, rfl⟩))) hrz)
    obtain ⟨g2, rfl, hgb2, -, hgl2⟩ := ho2.block (by simp)
    have hc5 : 3 ≤ c2 := ho2.capc
    have hc3i : ¬ (c2 : Int) < 3 := by omega
    have HS2 := Lib.hid ho2.strs
    have hlen2 : ([pa, pb, pc] : List ByteArray).length = 3 := rfl
    rw [hlen2]
    clear hcut hn2 hlen2 ho2 hc2 hf2
    go_wp2_with fail
    have HP3 := Lib.hid (show StrsAt w2 (some ⟨g2, 0, none⟩) [pa, pb, pc] from strs_take HS2.out 3)
    refine (l29Numbers_any (some ⟨g2, 0, none⟩) [pa, pb, pc] c2 w2 HP3.out (fun z hz => HPZ.out z (by simp only [List.mem_cons, List.not_mem_nil, or_false] at hz ⊢; rcases hz with rfl | rfl | rfl <;> simp)) (by simp)).mono ?_
    rintro e w3 ⟨hb3, hr⟩
    have HB3 := Lib.hid (bt0 HB2.out hb3 (Nat.le_refl _))
    have K3 := Lib.hid (blkK hb3 K2.out)
    have HS3 := Lib.hid (HS2.out.below hb3)
    have hgl3 : g2 < w3.heap.size := Nat.lt_of_lt_of_le hgl2 hb3.size
    clear hb3 hk2
    obtain ⟨hc3, hf3⟩ := heap_cellR K3.out
    have hlt3 := blkLt K3.out
    rcases hr with ⟨ns, a3, c3, hns, rfl, ho3⟩ | ⟨hno, rfl⟩
    rotate_left
    · have HN := Lib.hid (HO.out.trans (itemS_txt_no HC2.out HCR.out hno))
      clear hno
      go_wp2_with fail
      refine bodyPost_ret (v := .tuple #[.agg #[.int .i64 0, .int .i64 0, .int .i64 0, .int .i64 0, .int .i64 0, .int .i64 0, .string ⟨#[]⟩, .int .i64 0, .string ⟨#[]⟩], .bool false]) (by simp [results, Tryz.results39, go_sem, hc3]) rfl (retItR_no HN.out ⟨0, 0, 0, 0, 0, 0, ⟨#[]⟩, 0, ⟨#[]⟩⟩ ?_)
      iterate 9 (refine Below.setCell ?_ (by dsimp only; omega) _)
      exact HB3.out
    have h3 : ns.length = 3 := (allO_len hns).trans rfl
    obtain ⟨na, nb, nc, rfl⟩ : ∃ na nb nc, ns = [na, nb, nc] := by
      match ns, h3 with
      | [na, nb, nc], _ => exact ⟨na, nb, nc, rfl⟩
    have HNS := Lib.hid hns
    obtain ⟨g, rfl, hgb, -, hgl⟩ := ho3.block (by simp)
    have hx0 : w3.cell? ⟨g, 0, none⟩ = some (.int .i64 na) := World.ownsRow.cellAt ho3 0 (by simp)
    have hx1 : w3.cell? ⟨g, 1, none⟩ = some (.int .i64 nb) := World.ownsRow.cellAt ho3 1 (by simp)
    have hx2 : w3.cell? ⟨g, 2, none⟩ = some (.int .i64 nc) := World.ownsRow.cellAt ho3 2 (by simp)
    have hl3 : ([na, nb, nc] : List Int).length = 3 := rfl
    have hgw : ¬ w.heap.size = g := by have := blkLt K2.out; omega
    rw [hl3]
    clear hns h3 hl3
    go_wp2_with fail
    go_region
    obtain ⟨W9, hW9⟩ : ∃ W9, W9 = (w3.alloc (.cells #[.int .i64 1, .int .i64 na, .int .i64 nb, .int .i64 nc, .int .i64 0, .int .i64 0, .string ⟨#[]⟩, .int .i64 0, .string t] 49 (0, 0))).drew := ⟨_, rfl⟩
    rw [← hW9]
    have HB9' := Lib.hid (show Below w3.heap.size w3 W9 by rw [hW9]; exact (ba1 _ _).trans (below_drewN _ 1))
    have KX := Lib.hid (show W9.heap[w3.heap.size]? = some (.cells #[.int .i64 1, .int .i64 na, .int .i64 nb, .int .i64 nc, .int .i64 0, .int .i64 0, .string ⟨#[]⟩, .int .i64 0, .string t] 49 (0, 0)) by rw [hW9]; exact push_at _ _)
    have K9 := Lib.hid (blkK HB9'.out K3.out)
    have HB9 := Lib.hid (bt0 HB3.out HB9'.out (Nat.le_refl _))
    have HS9 := Lib.hid (HS3.out.below HB9'.out)
    have hw39 : ¬ w3.heap.size = w.heap.size := by omega
    have hw93 : ¬ w.heap.size = w3.heap.size := by omega
    have hlX := blkLt KX.out
    have hl9 := blkLt K9.out
    have HOI := Lib.hid (ho3.grown HB9'.out)
    clear hx0 hx1 hx2 hW9 hc3 hf3 ho3
    have HN := Lib.hid (HO.out.trans (itemS_txt HC2.out HCR.out HNS.out))
    obtain ⟨hcX, hfX⟩ := heap_cellR KX.out
    obtain ⟨hc9, hf9⟩ := heap_cellR K9.out
    go_wp2_with fail
    refine bodyPost_ret (v := .tuple #[.agg #[.int .i64 1, .int .i64 na, .int .i64 nb, .int .i64 nc, .int .i64 0, .int .i64 0, .string ⟨#[]⟩, .int .i64 0, .string t], .bool true]) (by simp [results, Tryz.results39, go_sem, hc9]) rfl (retItR_yes (x := ⟨1, na, nb, nc, 0, 0, ⟨#[]⟩, 0, t⟩) (HN.out.trans (by rw [ba_list])) ?_)
    iterate 9 (refine Below.setCell ?_ (by dsimp only; omega) _)
    exact HB9.out
  have hq3 : (k0.toList == [116, 101, 120, 116]) = false := by
    have h := word_no (a := k0) (b := ⟨#[116, 101, 120, 116]⟩) hkt
    simpa using h
  have HN := Lib.hid (HO.out.trans (itemS_other HC.out hkl hks hkt))
  clear hkl hks hkt hc1 hf1
  go_wp2_with fail
  refine (l29Cut_any r 3 _ hrz (by omega)).mono ?_
  rintro e w2 ⟨hb2, hr⟩
  have HB2 := Lib.hid (bt0 HB1.out hb2 (Nat.le_refl _))
  have K2 := Lib.hid (blkK hb2 K1.out)
  have hk2 : w2.cell? ⟨b, 0, none⟩ = some (.string k0) := (hb2.cell (p := ⟨b, 0, none⟩) hbl).trans hk0
  have hbl2 : b < w2.heap.size := lt_of_cell hk2
  clear hb2 hk0
  obtain ⟨hc2, hf2⟩ := heap_cellR K2.out
  have hlt2 := blkLt K2.out
  rcases hr with ⟨ps, t, a2, c2, -, -, rfl, -⟩ | ⟨-, rfl⟩
  · go_wp2_with fail
    refine bodyPost_ret (v := .tuple #[.agg #[.int .i64 0, .int .i64 0, .int .i64 0, .int .i64 0, .int .i64 0, .int .i64 0, .string ⟨#[]⟩, .int .i64 0, .string ⟨#[]⟩], .bool false]) (by simp [results, Tryz.results39, go_sem, hc2]) rfl (retItR_no HN.out ⟨0, 0, 0, 0, 0, 0, ⟨#[]⟩, 0, ⟨#[]⟩⟩ ?_)
    iterate 9 (refine Below.setCell ?_ (by dsimp only; omega) _)
    exact HB2.out
  · go_wp2_with fail
    refine bodyPost_ret (v := .tuple #[.agg #[.int .i64 0, .int .i64 0, .int .i64 0, .int .i64 0, .int .i64 0, .int .i64 0, .string ⟨#[]⟩, .int .i64 0, .string ⟨#[]⟩], .bool false]) (by simp [results, Tryz.results39, go_sem, hc2]) rfl (retItR_no HN.out ⟨0, 0, 0, 0, 0, 0, ⟨#[]⟩, 0, ⟨#[]⟩⟩ ?_)
    iterate 9 (refine Below.setCell ?_ (by dsimp only; omega) _)
    exact HB2.out

end Go.Proofs.YtlcglclojlffgaaGreatDoor
namespace Go.Proofs.YtlcglclojlffgaaGreatDoor
open Go.RowKit

/-- the slice v is the call's own and holds the bytes l -/
def OwnB (w : World) (base : Nat) (v : Value) (l : List UInt8) : Prop := w.ownsRow base 5 1 v l.length (Lib.byteCells l)
theorem infoU8 : (Tryz.prog.info? 5).map (fun i => (i.zero, i.size, i.bytes)) = some (some (.int .u8 0), 1, 1) := by kernel_rfl
theorem OwnB.nil (w : World) (base : Nat) : OwnB w base (.slice none 0 0) [] := World.ownsRow_nil _ _ _ _
theorem OwnB.grown {w w' : World} {base : Nat} {v : Value} {l : List UInt8} (h : OwnB w base v l) (hb : Below w.heap.size w w') : OwnB w' base v l :=
  h.kept (row := none) ⟨hb.os, hb.tape, hb.output, hb.size, fun k hk _ => hb.block k hk⟩ (by cases hv : v.ownBlock <;> simp)
theorem OwnB.lo {w : World} {base : Nat} {v : Value} {l : List UInt8} (h : OwnB w base v l) : ∀ k, v.ownBlock = some k → base ≤ k := fun k hk => (World.ownsRow.lt h k hk).1
theorem OwnB.hi {w : World} {base : Nat} {v : Value} {l : List UInt8} (h : OwnB w base v l) : ∀ k, v.ownBlock = some k → k < w.heap.size := fun k hk => (World.ownsRow.lt h k hk).2
theorem OwnB.weak {w : World} {base base' : Nat} {v : Value} {l : List UInt8} (h : OwnB w base v l) (hb : base' ≤ base) : OwnB w base' v l := by
  refine ⟨h.1, ?_⟩
  rcases h.2 with h2 | ⟨g, cap, cur, h1, hb', r⟩
  · exact Or.inl h2
  · exact Or.inr ⟨g, cap, cur, h1, by omega, r⟩
theorem OwnB.other {w w' : World} {base : Nat} {v : Value} {l : List UInt8} {row : Option Nat} (h : OwnB w base v l) (hg : w.grownBy w' row) (hne : ∀ k, v.ownBlock = some k → row ≠ some k) : OwnB w' base v l :=
  h.kept hg (by
    cases hv : v.ownBlock with
    | none => exact Or.inl rfl
    | some k => exact Or.inr (fun e => hne k hv e.symm))
/-- the bytes l lie at a -/
def BysAt (w : World) (a : Option Addr) (l : List UInt8) : Prop := ∀ i x, l[i]? = some x → ∃ b o, a = some ⟨b, o, none⟩ ∧ w.cell? ⟨b, o + i, none⟩ = some (.int .u8 x.toNat)
theorem BysAt.below {w w' : World} {a : Option Addr} {l : List UInt8} (h : BysAt w a l) (hb : Below w.heap.size w w') : BysAt w' a l := fun i x hx => by
  obtain ⟨b, o, e, hc⟩ := h i x hx
  exact ⟨b, o, e, by rw [hb.cell (p := ⟨b, o + i, none⟩) (lt_of_cell hc)]; exact hc⟩
theorem OwnB.read {w : World} {base : Nat} {v : Value} {l : List UInt8} (h : OwnB w base v l) : ∃ a c, v = .slice a l.length c ∧ BysAt w a l ∧ l.length ≤ maxLen := by
  have h2 := h.2
  rcases h2 with ⟨rfl, h0⟩ | ⟨g, cap, cur, rfl, hb, hg, hn, hm, hs, ht⟩
  · refine ⟨none, 0, by rw [h0], ?_, by rw [h0]; exact Nat.zero_le _⟩
    intro i x hx
    have := (List.getElem?_eq_some_iff.1 hx).1
    omega
  · refine ⟨some ⟨g, 0, none⟩, cap, rfl, ?_, by omega⟩
    intro i x hx
    refine ⟨g, 0, rfl, ?_⟩
    have hi := (List.getElem?_eq_some_iff.1 hx).1
    rw [Nat.zero_add, World.ownsRow.cellAt h i (by omega)]
    rw [Lib.byteCells, List.getElem?_map, hx]; rfl

/-- append of one byte -/
theorem wpList_append_b1 {ops : Array Oper} {rest : List Oper} {o : Oper} {a : Act} {Q : Exit → Act → World → Prop} {W : World} (hgd : o.guard = none) (s x : Operand)
    (ho : o.op = .call { callee := .builtin .append, args := #[s, x], argTypes := #[33, 33] })
    (base : Nat) (v : Value) (l : List UInt8) (z : UInt8) (hs : a.eval s = v) (hown : OwnB W base v l) (g : Nat) (hx : a.eval x = .slice (some ⟨g, 0, none⟩) 1 1)
    (hg : W.heap[g]? = some (.cells #[.int .u8 z.toNat] 5 (0, 0))) (hl : l.length ≤ 1000000000) (hb : base ≤ W.heap.size)
    (h : ∀ a' c' l' w', l' = l ++ [z] → OwnB w' base (.slice a' l'.length c') l' → Below base W w' → wpList Tryz.prog ops Q rest (a.put o.dst (.slice a' l'.length c')) w') : wpList Tryz.prog ops Q (o :: rest) a W := by
  obtain ⟨i0, hi, y0, y1, y2⟩ := info_parts infoU8
  refine wpList_append_own _ hgd s x 33 ho base 5 i0 _ 1 1 Tryz.underlying33 hi y0 y1 y2 rfl (by decide) v l.length (Lib.byteCells l) hs hown ⟨g, 0, none⟩ 1 1 [.int .u8 z.toNat] hx rfl ?_ ?_ (by unfold maxLen; omega) (by omega) hb
    (fun v' w' h1 h2 _ => ?_)
  · intro j u hu
    rw [Addr.add_lit, Nat.zero_add, (heap_cellR hg).1, ← hu]
    simp
  · intro u hu
    simp only [List.mem_singleton] at hu
    subst hu; rfl
  · have ho : OwnB w' base v' (l ++ [z]) := by
      unfold OwnB
      rw [List.length_append, Lib.byteCells, List.map_append]
      simpa [Lib.byteCells] using h1
    obtain ⟨a', c', e, _⟩ := ho.read
    rw [e] at ho ⊢
    exact h a' c' _ w' rfl ho (below_of_grownBy h2 hb (fun k hk => hown.lo k hk))
theorem tabBelow {w : World} {B : Nat} (h : Tab w) (hB : 5 < B) : Lib.TabBelow Tryz.prog B w "internal/strconv.uint64pow10" .u64 Lib.pow10Tab := fun _ hb => h.below hb hB
/-- strconv.AppendInt at bytes of the call's own -/
theorem appendInt_b (B : Nat) (n : Int) (v : Value) (l : List UInt8) (w : World) (h0 : -9223372036854775808 ≤ n) (h1 : n ≤ 9223372036854775807) (ho : OwnB w B v l) (hB : B ≤ w.heap.size) (hl : l.length ≤ 1000000000) (ht : Tab w) (hg : 5 < B) :
    Calls Tryz.prog 63 #[v, .int .i64 n, .int .i64 10] w fun e w' => ∃ a' c' l', l' = l ++ Lib.itoa n ∧ e = .returned (.slice a' l'.length c') ∧ OwnB w' B (.slice a' l'.length c') l' ∧ Below B w w' :=
  (Tryz.strconv_AppendInt_10 B l.length n h0 h1 v (Lib.byteCells l) w ho hB (by omega) (tabBelow ht hg)).mono fun e w' ⟨v', he, ho', hb, _⟩ => by
    have ho2 : OwnB w' B v' (l ++ Lib.itoa n) := by
      unfold OwnB
      rw [List.length_append, Lib.byteCells, List.map_append]
      exact ho'
    obtain ⟨a', c', e2, _⟩ := ho2.read
    rw [e2] at ho2
    exact ⟨a', c', _, rfl, by rw [he, e2], ho2, hb⟩
theorem nums_str (l : List UInt8) : strOfNums (l.map fun x => (x.toNat : Int)) = ⟨l.toArray⟩ := by
  unfold strOfNums
  congr 1
  rw [List.map_map]
  have : ((fun n : Int => UInt8.ofNat n.toNat) ∘ fun x : UInt8 => (x.toNat : Int)) = id := by funext x; simp
  rw [this, List.map_id]
theorem conv_at {w : World} {b o c : Nat} {l : List UInt8} (h : BysAt w (some ⟨b, o, none⟩) l) :
    (convert 33 9 (.slice (some ⟨b, o, none⟩) l.length c)).run Tryz.prog w = .ok (.string ⟨l.toArray⟩) w := by
  have := run_convert_bytes_arg (P := Tryz.prog) w 33 5 Tryz.underlying33 Tryz.underlying5 b o l.length c (l.map fun x => (x.toNat : Int)) (by simp) (fun i hi => by
    obtain ⟨b', o', e, hc⟩ := h i l[i] (List.getElem?_eq_getElem hi)
    simp only [Option.some.injEq, Addr.mk.injEq, and_true] at e
    obtain ⟨rfl, rfl⟩ := e
    rw [hc]
    simp [hi]) 9 Tryz.underlying9
  rw [nums_str] at this
  exact this
/-- bytes of the call's own as a string -/
theorem conv_own {w : World} {base : Nat} {a : Option Addr} {n c : Nat} {l : List UInt8} (h : OwnB w base (.slice a n c) l) :
    (convert 33 9 (.slice a n c)).run Tryz.prog w = .ok (.string ⟨l.toArray⟩) w := by
  obtain ⟨a', c', e, hb, _⟩ := h.read
  obtain ⟨rfl, rfl, rfl⟩ := Value.slice.inj e
  rcases h.2 with ⟨e2, h0⟩ | ⟨g, cap, cur, e2, _⟩
  · obtain ⟨rfl, _, rfl⟩ := Value.slice.inj e2
    have hl : l = [] := List.eq_nil_of_length_eq_zero h0
    subst hl
    exact run_convert_bytes_nil (P := Tryz.prog) w 33 5 Tryz.underlying33 Tryz.underlying5 _ _ 9 Tryz.underlying9
  · obtain ⟨rfl, _, rfl⟩ := Value.slice.inj e2
    exact conv_at hb

end Go.Proofs.YtlcglclojlffgaaGreatDoor
namespace Go.Proofs.YtlcglclojlffgaaGreatDoor
open Go.RowKit

set_option maxRecDepth 100000 in
set_option maxHeartbeats 1000000 in
theorem decimals_any (a : Option Addr) (xs : List Int) (c : Nat) (w : World) (hx : IntsAt w a xs) (h64 : ∀ x ∈ xs, -9223372036854775808 ≤ x ∧ x ≤ 9223372036854775807) (lx : xs.length ≤ 1000000) (ht : Tab w) :
    Calls Tryz.prog 47 #[.slice a xs.length c] w fun e w' => e = .returned (.string ⟨(decX xs).toArray⟩) ∧ Below w.heap.size w w' := by
  have HX := Lib.hid hx
  have HT := Lib.hid ht
  have H64 := Lib.hid h64
  have hltg := ht.lt
  clear hx ht h64
  go_enter Tryz.func47, Tryz.ntmps47
  go_wp2_with fail
  go_loopw [3, 4, 5, 9] (fun v _ _ i wr => ∃ (k : Nat) (a' : Option Addr) (c' : Nat) (l : List UInt8), k ≤ xs.length ∧ i = .int .i64 k ∧ l = decX (xs.take k) ∧ v = .slice a' l.length c' ∧ OwnB wr w.heap.size (.slice a' l.length c') l ∧ Below w.heap.size w wr) (fun _ _ _ i _ => xs.length - (intOf i).toNat)
  case atStart => exact ⟨0, _, 0, [], Nat.zero_le _, rfl, rfl, rfl, World.ownsRow_lit (base := w.heap.size) (size := 1) w #[] 0 (Nat.le_refl _) (by unfold maxLen; omega) rfl, ba1 _ _⟩
  case round =>
    obtain ⟨k, a1, c1, l, hk, rfl, hl, rfl, ho, hb⟩ := hrel
    have HL := Lib.hid hl
    have HO := Lib.hid ho
    have HB := Lib.hid hb
    have hll : l.length ≤ 22 * k := by
      have := decX_len (xs.take k) (fun x hx => H64.out x (List.mem_of_mem_take hx))
      rw [List.length_take] at this
      rw [hl]; omega
    have hwz : w.heap.size ≤ wr.heap.size := hb.size
    clear hl ho hb
    by_cases hlt : k < xs.length
    · obtain ⟨b1, o1, x, rfl, hxk, hb1, hc1⟩ := (HX.out.below HB.out).at hlt
      have hx64 := H64.out x (List.mem_of_getElem? hxk)
      have HXK := Lib.hid (take_snoc' hxk)
      have HNX := Lib.hid hxk
      clear hxk
      by_cases hk0 : k = 0
      · have hki : ¬ (0 : Int) < (k : Int) := by omega
        have HNE := Lib.hid (show xs.take k = [] by rw [hk0]; rfl)
        clear hk0
        go_wp2_with fail
        refine (appendInt_b w.heap.size x _ l _ hx64.1 hx64.2 HO.out hwz (by omega) (HT.out.next HB.out) hltg).mono ?_
        rintro e w2 ⟨a2, c2, l2, he2, rfl, ho2, hb2⟩
        have HO2 := Lib.hid ho2
        have HB2 := Lib.hid (HB.out.trans hb2)
        have HE2 := Lib.hid he2
        clear ho2 hb2 he2 hc1
        go_wp2_with fail
        refine ⟨⟨k + 1, a2, c2, l2, by omega, by go_num, ?_, rfl, HO2.out, HB2.out⟩, by simp [intOf]; omega⟩
        rw [HXK.out, decX_snoc, if_pos HNE.out, HE2.out, HL.out]
        rw [HNE.out]
        simp [decX, glue]
      · have hki : (0 : Int) < (k : Int) := by omega
        have hne : xs.take k ≠ [] := by
          intro e
          have := congrArg List.length e
          rw [List.length_take, List.length_nil] at this
          omega
        have HNE := Lib.hid hne
        clear hne
        go_wp2_with (at_builtin; refine wpList_append_b1 (o := _) (s := .tmp 16) (x := .tmp 17) rfl rfl w.heap.size (.slice a1 l.length c1) l 32 rfl (HO.out.grown (ba1 _ _)) wr.heap.size rfl (push_at wr _) (by omega) (by simp; omega) ?h9)
        case h9 =>
        intro a2 c2 l2 w2 he2 ho2 hb2
        have HO2 := Lib.hid ho2
        have HB2 := Lib.hid (HB.out.trans (((ba1 wr (.cells #[.int .u8 32] 5 (0, 0))).mono hwz).trans hb2))
        have hz2 : w.heap.size ≤ w2.heap.size := HB2.out.size
        have hl2 : l2.length ≤ l.length + 1 := by rw [he2]; simp
        have HE2 := Lib.hid he2
        clear he2 ho2 hb2 hc1
        go_wp2_with fail
        refine (appendInt_b w.heap.size x _ l2 _ hx64.1 hx64.2 HO2.out hz2 (by omega) (HT.out.next HB2.out) hltg).mono ?_
        rintro e w3 ⟨a3, c3, l3, he3, rfl, ho3, hb3⟩
        have HO3 := Lib.hid ho3
        have HB3 := Lib.hid (HB2.out.trans hb3)
        have HE3 := Lib.hid he3
        clear ho3 hb3 he3
        go_wp2_with fail
        refine ⟨⟨k + 1, a3, c3, l3, by omega, by go_num, ?_, rfl, HO3.out, HB3.out⟩, by simp [intOf]; omega⟩
        rw [HXK.out, decX_snoc, if_neg HNE.out, HE3.out, HE2.out, HL.out]
    · obtain rfl : k = xs.length := by omega
      have hcv := conv_own HO.out
      have HCV := Lib.hid (show l = decX xs by rw [HL.out, List.take_length])
      go_wp2_with fail
      go_ret
      exact ⟨congrArg (fun l : List UInt8 => Ending.returned (.string ⟨l.toArray⟩)) HCV.out, HB.out⟩

end Go.Proofs.YtlcglclojlffgaaGreatDoor
namespace Go.Proofs.YtlcglclojlffgaaGreatDoor
open Go.RowKit

/-- a slice of numbers -/
def IsV (zs : List Int) (v : Value) (W : World) : Prop := ∃ a c, v = .slice a zs.length c ∧ IntsAt W a zs
def spIs (zs : List Int) : Sp KB := ⟨IsV zs, fun _ _ _ hk ⟨a, c, e, h⟩ => ⟨a, c, e, h.below hk⟩⟩
theorem ba_eq {a : ByteArray} {l : List UInt8} (h : a.data.toList = l) : a = ⟨l.toArray⟩ := by subst h; simp
abbrev i64B (n : Int) : Prop := -9223372036854775808 ≤ n ∧ n ≤ 9223372036854775807
set_option maxRecDepth 100000 in
set_option maxHeartbeats 8000000 in
theorem textLine_any (row col sc tall wide lev : Int) (nm tx : ByteArray) (w : World) (hr : i64B row) (hc : i64B col) (hs : i64B sc) (_hl : i64B lev) (_hnm : nm.size ≤ 1048576) (htx : tx.size ≤ 1048576) (ht : Tab w) :
    Calls Tryz.prog 165 #[itV ⟨1, row, col, sc, tall, wide, nm, lev, tx⟩] w fun e w' => e = .returned (.string ⟨(lineI ⟨1, row, col, sc, tall, wide, nm, lev, tx⟩).toArray⟩) ∧ Below w.heap.size w w' := by
  have HDC := Lib.hid (fun a c w' (h : IntsAt w' a [row, col, sc]) (ht : Tab w') => decimals_any a [row, col, sc] c w' h (by intro x hx; simp only [List.mem_cons, List.not_mem_nil, or_false] at hx; rcases hx with rfl | rfl | rfl <;> assumption) (by simp) ht)
  obtain ⟨D, hD⟩ : ∃ D, D = (⟨(decX [row, col, sc]).toArray⟩ : ByteArray) := ⟨_, rfl⟩
  rw [← hD] at HDC
  have HDe := Lib.hid hD
  have hDs : D.size ≤ 66 := by
    rw [hD]
    exact decX_len [row, col, sc] (by intro x hx; simp only [List.mem_cons, List.not_mem_nil, or_false] at hx; rcases hx with rfl | rfl | rfl <;> assumption)
  have hcat0 : ¬ 9223372036854775807 < 5 + D.size := by omega
  have hcat1 : ¬ 9223372036854775807 < 5 + D.size + 1 := by omega
  have hcat2 : ¬ 9223372036854775807 < 5 + D.size + 1 + tx.size := by omega
  have hK := push_at w (.cells #[.int .i64 1, .int .i64 row, .int .i64 col, .int .i64 sc, .int .i64 tall, .int .i64 wide, .string nm, .int .i64 lev, .string tx] 111 (0, 0))
  have hB := ba1 w (.cells #[.int .i64 1, .int .i64 row, .int .i64 col, .int .i64 sc, .int .i64 tall, .int .i64 wide, .string nm, .int .i64 lev, .string tx] 111 (0, 0))
  have hT := ht.next hB
  obtain ⟨W, hW⟩ : ∃ W, W = w.alloc (.cells #[.int .i64 1, .int .i64 row, .int .i64 col, .int .i64 sc, .int .i64 tall, .int .i64 wide, .string nm, .int .i64 lev, .string tx] 111 (0, 0)) := ⟨_, rfl⟩
  have HW := Lib.hid hW
  rw [← hW] at hK hB hT
  have K := Lib.hid hK
  have HB := Lib.hid hB
  have HT := Lib.hid hT
  clear hK hB hT hW hD ht
  go_enter Tryz.func165, Tryz.ntmps165
  go_wp2_with fail
  rw [← HW.out]
  refine wp_region_rt (Keep := KB) [3, 4, 5, 6, 7, 8, 9, 10, 11, 12, 13, 14, 15, 16, 17, 18, 19] (fun us => _)
    [spE (.pointer (some ⟨w.heap.size, 0, none⟩)),
     spE (.pointer (some ⟨w.heap.size, 1, none⟩)),
     spE (.int .i64 row),
     spE (.pointer (some ⟨w.heap.size, 0, none⟩)),
     spE (.pointer (some ⟨w.heap.size, 2, none⟩)),
     spE (.int .i64 col),
     spE (.pointer (some ⟨w.heap.size, 0, none⟩)),
     spE (.pointer (some ⟨w.heap.size, 3, none⟩)),
     spE (.int .i64 sc),
     spIs [row, col, sc],
     spE (.string D),
     spE (.string ((⟨#[116, 101, 120, 116, 32]⟩ : ByteArray) ++ D)),
     spE (.string ((⟨#[116, 101, 120, 116, 32]⟩ : ByteArray) ++ D ++ (⟨#[32]⟩ : ByteArray))),
     spE (.pointer (some ⟨w.heap.size, 0, none⟩)),
     spE (.pointer (some ⟨w.heap.size, 8, none⟩)),
     spE (.string tx),
     spE (.string ((⟨#[116, 101, 120, 116, 32]⟩ : ByteArray) ++ D ++ (⟨#[32]⟩ : ByteArray) ++ tx))]
    (StX W) (by kernel_rfl) (by kernel_rfl) (Nat.le_of_ble_eq_true rfl) (fun us => by simp [over, List.mapIdx_cons]; exact rfl) (stX0 _) kbr ?_ ?_
  · refine ⟨?_, ?_, ?_, ?_, ?_, ?_, ?_, ?_, ?_, ?_, ?_, ?_, ?_, ?_, ?_, ?_, ?_, trivial⟩
    all_goals (intro us wx hst hd; rw [if_pos (by kernel_rfl)]; dsimp only)
    · clear hd
      go_simp
      exact kb_same hst rfl
    · have d3 : us 3 = (.pointer (some ⟨w.heap.size, 0, none⟩)) := hd ⟨0, .data⟩ (by simp) rfl
      clear hd
      go_simp
      exact kb_same hst rfl
    · have d4 : us 4 = (.pointer (some ⟨w.heap.size, 1, none⟩)) := hd ⟨1, .data⟩ (by simp) rfl
      clear hd
      obtain ⟨hcX, hfX⟩ := heap_cellR (blkK hst K.out)
      have hlX := blkLt (blkK hst K.out)
      go_simp
      exact kb_same hst rfl
    · clear hd
      go_simp
      exact kb_same hst rfl
    · have d6 : us 6 = (.pointer (some ⟨w.heap.size, 0, none⟩)) := hd ⟨3, .data⟩ (by simp) rfl
      clear hd
      go_simp
      exact kb_same hst rfl
    · have d7 : us 7 = (.pointer (some ⟨w.heap.size, 2, none⟩)) := hd ⟨4, .data⟩ (by simp) rfl
      clear hd
      obtain ⟨hcX, hfX⟩ := heap_cellR (blkK hst K.out)
      have hlX := blkLt (blkK hst K.out)
      go_simp
      exact kb_same hst rfl
    · clear hd
      go_simp
      exact kb_same hst rfl
    · have d9 : us 9 = (.pointer (some ⟨w.heap.size, 0, none⟩)) := hd ⟨6, .data⟩ (by simp) rfl
      clear hd
      go_simp
      exact kb_same hst rfl
    · have d10 : us 10 = (.pointer (some ⟨w.heap.size, 3, none⟩)) := hd ⟨7, .data⟩ (by simp) rfl
      clear hd
      obtain ⟨hcX, hfX⟩ := heap_cellR (blkK hst K.out)
      have hlX := blkLt (blkK hst K.out)
      go_simp
      exact kb_same hst rfl
    · have d5 : us 5 = (.int .i64 row) := hd ⟨2, .data⟩ (by simp) rfl
      have d8 : us 8 = (.int .i64 col) := hd ⟨5, .data⟩ (by simp) rfl
      have d11 : us 11 = (.int .i64 sc) := hd ⟨8, .data⟩ (by simp) rfl
      clear hd
      go_simp
      exact kb_below hst (ba1 _ _) ⟨_, _, rfl, ints_lit2 (push_at _ _) rfl⟩
    · have d12 := hd ⟨9, .data⟩ (by simp) rfl
      clear hd
      obtain ⟨a12, c12, e12, h12⟩ : IsV [row, col, sc] (us 12) wx := d12
      have h9 := HDC.out a12 c12 wx h12 (HT.out.next hst)
      go_simp
      exact h9.mono fun e w' ⟨he, hb⟩ => ⟨_, he, kb_below hst hb rfl⟩
    · have d13 : us 13 = (.string D) := hd ⟨10, .data⟩ (by simp) rfl
      clear hd
      go_simp
      exact kb_same hst rfl
    · have d14 : us 14 = (.string ((⟨#[116, 101, 120, 116, 32]⟩ : ByteArray) ++ D)) := hd ⟨11, .data⟩ (by simp) rfl
      clear hd
      go_simp
      exact kb_same hst rfl
    · clear hd
      go_simp
      exact kb_same hst rfl
    · have d16 : us 16 = (.pointer (some ⟨w.heap.size, 0, none⟩)) := hd ⟨13, .data⟩ (by simp) rfl
      clear hd
      go_simp
      exact kb_same hst rfl
    · have d17 : us 17 = (.pointer (some ⟨w.heap.size, 8, none⟩)) := hd ⟨14, .data⟩ (by simp) rfl
      clear hd
      obtain ⟨hcX, hfX⟩ := heap_cellR (blkK hst K.out)
      have hlX := blkLt (blkK hst K.out)
      go_simp
      exact kb_same hst rfl
    · have d15 : us 15 = (.string ((⟨#[116, 101, 120, 116, 32]⟩ : ByteArray) ++ D ++ (⟨#[32]⟩ : ByteArray))) := hd ⟨12, .data⟩ (by simp) rfl
      have d18 : us 18 = (.string tx) := hd ⟨15, .data⟩ (by simp) rfl
      clear hd
      go_simp
      exact kb_same hst rfl
  · intro us wx hst hd
    have d19 : us 19 = (.string ((⟨#[116, 101, 120, 116, 32]⟩ : ByteArray) ++ D ++ (⟨#[32]⟩ : ByteArray) ++ tx)) := hd 16 (by simp)
    clear hd
    simp only [List.drop, List.length]
    rw [d19]
    have HST := Lib.hid hst
    clear hst
    go_wp2_with fail
    go_ret
    refine ⟨ret_str (ba_eq ?_), bt0 HB.out HST.out (Nat.le_refl _)⟩
    rw [lineI, if_pos rfl, wordsX_dec, HDe.out]
    simp
set_option maxRecDepth 100000 in
set_option maxHeartbeats 8000000 in
theorem symbolLine_any (row col sc tall wide lev : Int) (nm tx : ByteArray) (w : World) (hr : i64B row) (hc : i64B col) (hs : i64B sc) (hl : i64B lev) (hnm : nm.size ≤ 1048576) (htx : tx.size ≤ 1048576) (ht : Tab w) :
    Calls Tryz.prog 172 #[itV ⟨3, row, col, sc, tall, wide, nm, lev, tx⟩] w fun e w' => e = .returned (.string ⟨(lineI ⟨3, row, col, sc, tall, wide, nm, lev, tx⟩).toArray⟩) ∧ Below w.heap.size w w' := by
  have HDC := Lib.hid (fun a c w' (h : IntsAt w' a [row, col, sc]) (ht : Tab w') => decimals_any a [row, col, sc] c w' h (by intro x hx; simp only [List.mem_cons, List.not_mem_nil, or_false] at hx; rcases hx with rfl | rfl | rfl <;> assumption) (by simp) ht)
  obtain ⟨D, hD⟩ : ∃ D, D = (⟨(decX [row, col, sc]).toArray⟩ : ByteArray) := ⟨_, rfl⟩
  rw [← hD] at HDC
  have HDe := Lib.hid hD
  have hDs : D.size ≤ 66 := by
    rw [hD]
    exact decX_len [row, col, sc] (by intro x hx; simp only [List.mem_cons, List.not_mem_nil, or_false] at hx; rcases hx with rfl | rfl | rfl <;> assumption)
  have HFI := Lib.hid (fun w' (ht : Tab w') => formatInt_any lev w' hl.1 hl.2 ht)
  obtain ⟨E, hE⟩ : ∃ E, E = decB lev := ⟨_, rfl⟩
  rw [← hE] at HFI
  have HEe := Lib.hid hE
  have hEs : E.size ≤ 22 := by
    rw [hE, decB_size]
    have := Lib.itoa_length_le lev hl.1 hl.2
    omega
  clear hE
  have hcat0 : ¬ 9223372036854775807 < 7 + D.size := by omega
  have hcat1 : ¬ 9223372036854775807 < 7 + D.size + 1 := by omega
  have hcat2 : ¬ 9223372036854775807 < 7 + D.size + 1 + nm.size := by omega
  have hcat3 : ¬ 9223372036854775807 < 7 + D.size + 1 + nm.size + 1 := by omega
  have hcat4 : ¬ 9223372036854775807 < 7 + D.size + 1 + nm.size + 1 + E.size := by omega
  have hcat5 : ¬ 9223372036854775807 < 7 + D.size + 1 + nm.size + 1 + E.size + 1 := by omega
  have hcat6 : ¬ 9223372036854775807 < 7 + D.size + 1 + nm.size + 1 + E.size + 1 + tx.size := by omega
  have hK := push_at w (.cells #[.int .i64 3, .int .i64 row, .int .i64 col, .int .i64 sc, .int .i64 tall, .int .i64 wide, .string nm, .int .i64 lev, .string tx] 113 (0, 0))
  have hB := ba1 w (.cells #[.int .i64 3, .int .i64 row, .int .i64 col, .int .i64 sc, .int .i64 tall, .int .i64 wide, .string nm, .int .i64 lev, .string tx] 113 (0, 0))
  have hT := ht.next hB
  obtain ⟨W, hW⟩ : ∃ W, W = w.alloc (.cells #[.int .i64 3, .int .i64 row, .int .i64 col, .int .i64 sc, .int .i64 tall, .int .i64 wide, .string nm, .int .i64 lev, .string tx] 113 (0, 0)) := ⟨_, rfl⟩
  have HW := Lib.hid hW
  rw [← hW] at hK hB hT
  have K := Lib.hid hK
  have HB := Lib.hid hB
  have HT := Lib.hid hT
  clear hK hB hT hW hD ht
  go_enter Tryz.func172, Tryz.ntmps172
  go_wp2_with fail
  rw [← HW.out]
  refine wp_region_rt (Keep := KB) [3, 4, 5, 6, 7, 8, 9, 10, 11, 12, 13, 14, 15, 16, 17, 18, 19, 20, 21, 22, 23, 24, 25, 26, 27, 28, 29, 30] (fun us => _)
    [spE (.pointer (some ⟨w.heap.size, 0, none⟩)),
     spE (.pointer (some ⟨w.heap.size, 1, none⟩)),
     spE (.int .i64 row),
     spE (.pointer (some ⟨w.heap.size, 0, none⟩)),
     spE (.pointer (some ⟨w.heap.size, 2, none⟩)),
     spE (.int .i64 col),
     spE (.pointer (some ⟨w.heap.size, 0, none⟩)),
     spE (.pointer (some ⟨w.heap.size, 3, none⟩)),
     spE (.int .i64 sc),
     spIs [row, col, sc],
     spE (.string D),
     spE (.string ((⟨#[115, 121, 109, 98, 111, 108, 32]⟩ : ByteArray) ++ D)),
     spE (.string ((⟨#[115, 121, 109, 98, 111, 108, 32]⟩ : ByteArray) ++ D ++ (⟨#[32]⟩ : ByteArray))),
     spE (.pointer (some ⟨w.heap.size, 0, none⟩)),
     spE (.pointer (some ⟨w.heap.size, 6, none⟩)),
     spE (.string nm),
     spE (.string ((⟨#[115, 121, 109, 98, 111, 108, 32]⟩ : ByteArray) ++ D ++ (⟨#[32]⟩ : ByteArray) ++ nm)),
     spE (.string ((⟨#[115, 121, 109, 98, 111, 108, 32]⟩ : ByteArray) ++ D ++ (⟨#[32]⟩ : ByteArray) ++ nm ++ (⟨#[32]⟩ : ByteArray))),
     spE (.pointer (some ⟨w.heap.size, 0, none⟩)),
     spE (.pointer (some ⟨w.heap.size, 7, none⟩)),
     spE (.int .i64 lev),
     spE (.string E),
     spE (.string ((⟨#[115, 121, 109, 98, 111, 108, 32]⟩ : ByteArray) ++ D ++ (⟨#[32]⟩ : ByteArray) ++ nm ++ (⟨#[32]⟩ : ByteArray) ++ E)),
     spE (.string ((⟨#[115, 121, 109, 98, 111, 108, 32]⟩ : ByteArray) ++ D ++ (⟨#[32]⟩ : ByteArray) ++ nm ++ (⟨#[32]⟩ : ByteArray) ++ E ++ (⟨#[32]⟩ : ByteArray))),
     spE (.pointer (some ⟨w.heap.size, 0, none⟩)),
     spE (.pointer (some ⟨w.heap.size, 8, none⟩)),
     spE (.string tx),
     spE (.string ((⟨#[115, 121, 109, 98, 111, 108, 32]⟩ : ByteArray) ++ D ++ (⟨#[32]⟩ : ByteArray) ++ nm ++ (⟨#[32]⟩ : ByteArray) ++ E ++ (⟨#[32]⟩ : ByteArray) ++ tx))]
    (StX W) (by kernel_rfl) (by kernel_rfl) (Nat.le_of_ble_eq_true rfl) (fun us => by simp [over, List.mapIdx_cons]; exact rfl) (stX0 _) kbr ?_ ?_
  · refine ⟨?_, ?_, ?_, ?_, ?_, ?_, ?_, ?_, ?_, ?_, ?_, ?_, ?_, ?_, ?_, ?_, ?_, ?_, ?_, ?_, ?_, ?_, ?_, ?_, ?_, ?_, ?_, ?_, trivial⟩
    all_goals (intro us wx hst hd; rw [if_pos (by kernel_rfl)]; dsimp only)
    · clear hd
      go_simp
      exact kb_same hst rfl
    · have d3 : us 3 = (.pointer (some ⟨w.heap.size, 0, none⟩)) := hd ⟨0, .data⟩ (by simp) rfl
      clear hd
      go_simp
      exact kb_same hst rfl
    · have d4 : us 4 = (.pointer (some ⟨w.heap.size, 1, none⟩)) := hd ⟨1, .data⟩ (by simp) rfl
      clear hd
      obtain ⟨hcX, hfX⟩ := heap_cellR (blkK hst K.out)
      have hlX := blkLt (blkK hst K.out)
      go_simp
      exact kb_same hst rfl
    · clear hd
      go_simp
      exact kb_same hst rfl
    · have d6 : us 6 = (.pointer (some ⟨w.heap.size, 0, none⟩)) := hd ⟨3, .data⟩ (by simp) rfl
      clear hd
      go_simp
      exact kb_same hst rfl
    · have d7 : us 7 = (.pointer (some ⟨w.heap.size, 2, none⟩)) := hd ⟨4, .data⟩ (by simp) rfl
      clear hd
      obtain ⟨hcX, hfX⟩ := heap_cellR (blkK hst K.out)
      have hlX := blkLt (blkK hst K.out)
      go_simp
      exact kb_same hst rfl
    · clear hd
      go_simp
      exact kb_same hst rfl
    · have d9 : us 9 = (.pointer (some ⟨w.heap.size, 0, none⟩)) := hd ⟨6, .data⟩ (by simp) rfl
      clear hd
      go_simp
      exact kb_same hst rfl
    · have d10 : us 10 = (.pointer (some ⟨w.heap.size, 3, none⟩)) := hd ⟨7, .data⟩ (by simp) rfl
      clear hd
      obtain ⟨hcX, hfX⟩ := heap_cellR (blkK hst K.out)
      have hlX := blkLt (blkK hst K.out)
      go_simp
      exact kb_same hst rfl
    · have d5 : us 5 = (.int .i64 row) := hd ⟨2, .data⟩ (by simp) rfl
      have d8 : us 8 = (.int .i64 col) := hd ⟨5, .data⟩ (by simp) rfl
      have d11 : us 11 = (.int .i64 sc) := hd ⟨8, .data⟩ (by simp) rfl
      clear hd
      go_simp
      exact kb_below hst (ba1 _ _) ⟨_, _, rfl, ints_lit2 (push_at _ _) rfl⟩
    · have d12 := hd ⟨9, .data⟩ (by simp) rfl
      clear hd
      obtain ⟨a12, c12, e12, h12⟩ : IsV [row, col, sc] (us 12) wx := d12
      have h9 := HDC.out a12 c12 wx h12 (HT.out.next hst)
      go_simp
      exact h9.mono fun e w' ⟨he, hb⟩ => ⟨_, he, kb_below hst hb rfl⟩
    · have d13 : us 13 = (.string D) := hd ⟨10, .data⟩ (by simp) rfl
      clear hd
      go_simp
      exact kb_same hst rfl
    · have d14 : us 14 = (.string ((⟨#[115, 121, 109, 98, 111, 108, 32]⟩ : ByteArray) ++ D)) := hd ⟨11, .data⟩ (by simp) rfl
      clear hd
      go_simp
      exact kb_same hst rfl
    · clear hd
      go_simp
      exact kb_same hst rfl
    · have d16 : us 16 = (.pointer (some ⟨w.heap.size, 0, none⟩)) := hd ⟨13, .data⟩ (by simp) rfl
      clear hd
      go_simp
      exact kb_same hst rfl
    · have d17 : us 17 = (.pointer (some ⟨w.heap.size, 6, none⟩)) := hd ⟨14, .data⟩ (by simp) rfl
      clear hd
      obtain ⟨hcX, hfX⟩ := heap_cellR (blkK hst K.out)
      have hlX := blkLt (blkK hst K.out)
      go_simp
      exact kb_same hst rfl
    · have d15 : us 15 = (.string ((⟨#[115, 121, 109, 98, 111, 108, 32]⟩ : ByteArray) ++ D ++ (⟨#[32]⟩ : ByteArray))) := hd ⟨12, .data⟩ (by simp) rfl
      have d18 : us 18 = (.string nm) := hd ⟨15, .data⟩ (by simp) rfl
      clear hd
      go_simp
      exact kb_same hst rfl
    · have d19 : us 19 = (.string ((⟨#[115, 121, 109, 98, 111, 108, 32]⟩ : ByteArray) ++ D ++ (⟨#[32]⟩ : ByteArray) ++ nm)) := hd ⟨16, .data⟩ (by simp) rfl
      clear hd
      go_simp
      exact kb_same hst rfl
    · clear hd
      go_simp
      exact kb_same hst rfl
    · have d21 : us 21 = (.pointer (some ⟨w.heap.size, 0, none⟩)) := hd ⟨18, .data⟩ (by simp) rfl
      clear hd
      go_simp
      exact kb_same hst rfl
    · have d22 : us 22 = (.pointer (some ⟨w.heap.size, 7, none⟩)) := hd ⟨19, .data⟩ (by simp) rfl
      clear hd
      obtain ⟨hcX, hfX⟩ := heap_cellR (blkK hst K.out)
      have hlX := blkLt (blkK hst K.out)
      go_simp
      exact kb_same hst rfl
    · have d23 : us 23 = (.int .i64 lev) := hd ⟨20, .data⟩ (by simp) rfl
      clear hd
      have h9 := HFI.out wx (HT.out.next hst)
      go_simp
      exact h9.mono fun e w' ⟨he, hb⟩ => ⟨_, he, kb_below hst hb rfl⟩
    · have d20 : us 20 = (.string ((⟨#[115, 121, 109, 98, 111, 108, 32]⟩ : ByteArray) ++ D ++ (⟨#[32]⟩ : ByteArray) ++ nm ++ (⟨#[32]⟩ : ByteArray))) := hd ⟨17, .data⟩ (by simp) rfl
      have d24 : us 24 = (.string E) := hd ⟨21, .data⟩ (by simp) rfl
      clear hd
      go_simp
      exact kb_same hst rfl
    · have d25 : us 25 = (.string ((⟨#[115, 121, 109, 98, 111, 108, 32]⟩ : ByteArray) ++ D ++ (⟨#[32]⟩ : ByteArray) ++ nm ++ (⟨#[32]⟩ : ByteArray) ++ E)) := hd ⟨22, .data⟩ (by simp) rfl
      clear hd
      go_simp
      exact kb_same hst rfl
    · clear hd
      go_simp
      exact kb_same hst rfl
    · have d27 : us 27 = (.pointer (some ⟨w.heap.size, 0, none⟩)) := hd ⟨24, .data⟩ (by simp) rfl
      clear hd
      go_simp
      exact kb_same hst rfl
    · have d28 : us 28 = (.pointer (some ⟨w.heap.size, 8, none⟩)) := hd ⟨25, .data⟩ (by simp) rfl
      clear hd
      obtain ⟨hcX, hfX⟩ := heap_cellR (blkK hst K.out)
      have hlX := blkLt (blkK hst K.out)
      go_simp
      exact kb_same hst rfl
    · have d26 : us 26 = (.string ((⟨#[115, 121, 109, 98, 111, 108, 32]⟩ : ByteArray) ++ D ++ (⟨#[32]⟩ : ByteArray) ++ nm ++ (⟨#[32]⟩ : ByteArray) ++ E ++ (⟨#[32]⟩ : ByteArray))) := hd ⟨23, .data⟩ (by simp) rfl
      have d29 : us 29 = (.string tx) := hd ⟨26, .data⟩ (by simp) rfl
      clear hd
      go_simp
      exact kb_same hst rfl
  · intro us wx hst hd
    have d30 : us 30 = (.string ((⟨#[115, 121, 109, 98, 111, 108, 32]⟩ : ByteArray) ++ D ++ (⟨#[32]⟩ : ByteArray) ++ nm ++ (⟨#[32]⟩ : ByteArray) ++ E ++ (⟨#[32]⟩ : ByteArray) ++ tx)) := hd 27 (by simp)
    clear hd
    simp only [List.drop, List.length]
    rw [d30]
    have HST := Lib.hid hst
    clear hst
    go_wp2_with fail
    go_ret
    refine ⟨ret_str (ba_eq ?_), bt0 HB.out HST.out (Nat.le_refl _)⟩
    rw [lineI, if_neg (show ¬ (3 : Int) = 1 by decide), if_neg (show ¬ (3 : Int) = 2 by decide), wordsX_dec, HDe.out, HEe.out]
    simp [decB, wordsX]
set_option maxRecDepth 100000 in
set_option maxHeartbeats 8000000 in
theorem lineLine_any (row col sc tall wide lev : Int) (nm tx : ByteArray) (w : World) (hr : i64B row) (hc : i64B col) (hs : i64B tall) (hl : i64B wide) (ht : Tab w) :
    Calls Tryz.prog 169 #[itV ⟨2, row, col, sc, tall, wide, nm, lev, tx⟩] w fun e w' => e = .returned (.string ⟨(lineI ⟨2, row, col, sc, tall, wide, nm, lev, tx⟩).toArray⟩) ∧ Below w.heap.size w w' := by
  have HDC := Lib.hid (fun a c w' (h : IntsAt w' a [row, col, tall, wide]) (ht : Tab w') => decimals_any a [row, col, tall, wide] c w' h (by intro x hx; simp only [List.mem_cons, List.not_mem_nil, or_false] at hx; rcases hx with rfl | rfl | rfl | rfl <;> assumption) (by simp) ht)
  obtain ⟨D, hD⟩ : ∃ D, D = (⟨(decX [row, col, tall, wide]).toArray⟩ : ByteArray) := ⟨_, rfl⟩
  rw [← hD] at HDC
  have HDe := Lib.hid hD
  have hDs : D.size ≤ 88 := by
    rw [hD]
    exact decX_len [row, col, tall, wide] (by intro x hx; simp only [List.mem_cons, List.not_mem_nil, or_false] at hx; rcases hx with rfl | rfl | rfl | rfl <;> assumption)
  have hcat : ¬ 9223372036854775807 < 5 + D.size := by omega
  have HT := Lib.hid ht
  clear hD ht
  go_enter Tryz.func169, Tryz.ntmps169
  go_wp2_with fail
  refine (HDC.out _ _ _ (ints_lit2 (heap2 _ _ _).2 rfl) (HT.out.next (ba2 _ _ _))).mono ?_
  rintro e w1 ⟨rfl, hb1⟩
  have HB1 := Lib.hid (bt2 hb1)
  clear hb1
  go_wp2_with fail
  go_ret
  refine ⟨ret_str (ba_eq ?_), HB1.out⟩
  rw [lineI, if_neg (show ¬ (2 : Int) = 1 by decide), if_pos rfl, wordsX_dec, HDe.out]
  simp

end Go.Proofs.YtlcglclojlffgaaGreatDoor
namespace Go.Proofs.YtlcglclojlffgaaGreatDoor
open Go.RowKit

theorem methLine1 (kd row col sc tall wide : Int) (nm : ByteArray) (lev : Int) (tx : ByteArray) (n : Nat) (W : World) : (method (n + 1) 111 (.agg #[.int .i64 kd, .int .i64 row, .int .i64 col, .int .i64 sc, .int .i64 tall, .int .i64 wide, .string nm, .int .i64 lev, .string tx]) "loop.example/g00879/impl.line").run Tryz.prog W = .ok (165, (.agg #[.int .i64 kd, .int .i64 row, .int .i64 col, .int .i64 sc, .int .i64 tall, .int .i64 wide, .string nm, .int .i64 lev, .string tx])) W := by kernel_rfl
theorem methLine2 (kd row col sc tall wide : Int) (nm : ByteArray) (lev : Int) (tx : ByteArray) (n : Nat) (W : World) : (method (n + 1) 112 (.agg #[.int .i64 kd, .int .i64 row, .int .i64 col, .int .i64 sc, .int .i64 tall, .int .i64 wide, .string nm, .int .i64 lev, .string tx]) "loop.example/g00879/impl.line").run Tryz.prog W = .ok (169, (.agg #[.int .i64 kd, .int .i64 row, .int .i64 col, .int .i64 sc, .int .i64 tall, .int .i64 wide, .string nm, .int .i64 lev, .string tx])) W := by kernel_rfl
theorem methLine3 (kd row col sc tall wide : Int) (nm : ByteArray) (lev : Int) (tx : ByteArray) (n : Nat) (W : World) : (method (n + 1) 113 (.agg #[.int .i64 kd, .int .i64 row, .int .i64 col, .int .i64 sc, .int .i64 tall, .int .i64 wide, .string nm, .int .i64 lev, .string tx]) "loop.example/g00879/impl.line").run Tryz.prog W = .ok (172, (.agg #[.int .i64 kd, .int .i64 row, .int .i64 col, .int .i64 sc, .int .i64 tall, .int .i64 wide, .string nm, .int .i64 lev, .string tx])) W := by kernel_rfl
set_option maxRecDepth 100000 in
set_option maxHeartbeats 8000000 in
theorem labelTextIn_any (l : Lb) (a : Option Addr) (c : Nat) (w : World) (hx : itE.At w a l.items) (hok : l.ok = true) (ht : Tab w) :
    Calls Tryz.prog 26 #[lbV l a c] w fun e w' => e = .returned (.string ⟨(textL l).toArray⟩) ∧ Below w.heap.size w w' := by
  obtain ⟨hit, hrc, h12⟩ := lb_bd hok
  have HIT := Lib.hid hit
  have HX := Lib.hid hx
  have HT := Lib.hid ht
  have HTL := Lib.hid (textP_len hit (by omega) (by omega))
  have HTS := Lib.hid (fun k x h => textP_step (l := l) (k := k) (x := x) h)
  have HTF := Lib.hid (textP_full l)
  have HT0 := Lib.hid (show textP l 0 = [108, 97, 98, 101, 108] ++ wordsX [l.rows, l.cols] ++ [10] by rw [textP, List.take_zero, List.flatMap_nil])
  obtain ⟨TP, hTP⟩ : ∃ TP, TP = textP l := ⟨_, rfl⟩
  obtain ⟨TL, hTLe⟩ : ∃ TL, TL = textL l := ⟨_, rfl⟩
  rw [← hTP] at HTL HTS HTF HT0
  rw [← hTLe] at HTF ⊢
  obtain ⟨rows, cols, items⟩ := l
  dsimp only at HIT HX HTL HTS HTF HT0 hrc h12 ⊢
  have HDC := Lib.hid (fun a c w' (h : IntsAt w' a [rows, cols]) (ht : Tab w') => decimals_any a [rows, cols] c w' h (by intro x hx; simp only [List.mem_cons, List.not_mem_nil, or_false] at hx; rcases hx with rfl | rfl <;> omega) (by simp) ht)
  obtain ⟨D, hD⟩ : ∃ D, D = (⟨(decX [rows, cols]).toArray⟩ : ByteArray) := ⟨_, rfl⟩
  rw [← hD] at HDC
  have HDe := Lib.hid hD
  have hDs : D.size ≤ 44 := by
    rw [hD]
    exact decX_len [rows, cols] (by intro x hx; simp only [List.mem_cons, List.not_mem_nil, or_false] at hx; rcases hx with rfl | rfl <;> omega)
  have hcat0 : ¬ 9223372036854775807 < 6 + D.size := by omega
  have hcat1 : ¬ 9223372036854775807 < 6 + D.size + 1 := by omega
  have HS0 := Lib.hid (show (⟨#[108, 97, 98, 101, 108, 32]⟩ ++ D ++ ⟨#[10]⟩ : ByteArray).data.toList = TP 0 by rw [HT0.out, wordsX_dec, hD]; simp)
  clear hit hx ht hTP hTLe hD hok
  have HB0 := Lib.hid (ba1 w (.cells #[.int .i64 rows, .int .i64 cols, .slice a items.length c] 29 (0, 0)))
  have K0 := Lib.hid (push_at w (.cells #[.int .i64 rows, .int .i64 cols, .slice a items.length c] 29 (0, 0)))
  go_enter Tryz.func26, Tryz.ntmps26
  go_wp2_with fail
  refine (HDC.out _ _ _ (ints_lit2 (heap2 _ _ _).2 rfl) (HT.out.next (ba2 _ _ _))).mono ?_
  rintro e w1 ⟨rfl, hb1⟩
  have HB1 := Lib.hid (bt2 hb1)
  have K1 := Lib.hid (blkK hb1 (blkK (ba1 _ _) K0.out))
  clear hb1
  obtain ⟨hc1, hf1⟩ := heap_cellR K1.out
  have hl1 := blkLt K1.out
  go_wp2_with fail
  go_loopw [3, 19] (fun v i wr => ∃ (k : Nat) (V : ByteArray), k ≤ items.length ∧ i = .int .i64 (k : Int) ∧ v = .string V ∧ V.data.toList = TP k ∧ Below w.heap.size w wr) (fun _ i _ => items.length - (intOf i).toNat)
  case atStart => exact ⟨0, _, Nat.zero_le _, rfl, rfl, HS0.out, HB1.out⟩
  case round =>
    obtain ⟨k, V, hk, rfl, rfl, hV, hbr⟩ := hrel
    have HV := Lib.hid hV
    have HBR := Lib.hid hbr
    have hVs : V.size ≤ 60 + 701 * k := by have := HTL.out k; rw [← hV] at this; exact this
    have HXr := Lib.hid (HX.out.below hbr)
    clear hV hbr hc1 hf1
    by_cases hlt : k < items.length
    · have hki : (k : Int) < (items.length : Int) := by omega
      obtain ⟨x, hx⟩ : ∃ x, items[k]? = some x := by rw [List.getElem?_eq_getElem hlt]; exact ⟨_, rfl⟩
      have hib := HIT.out x (List.mem_of_getElem? hx)
      have HLE := Lib.hid (lineI_len hib)
      have HST := Lib.hid (HTS.out k x hx)
      obtain ⟨b, o, rfl, hbl, y0, y1, y2, y3, y4, y5, y6, y7, y8⟩ := it_at HXr.out hx
      obtain ⟨LN, hLN⟩ : ∃ LN, LN = (⟨(lineI x).toArray⟩ : ByteArray) := ⟨_, rfl⟩
      have hLs : LN.size ≤ 700 := by rw [hLN]; exact HLE.out
      have hk1 : ¬ 9223372036854775807 < LN.size + 1 := by omega
      have hk2 : ¬ 9223372036854775807 < V.size + (LN.size + 1) := by omega
      have HNX := Lib.hid (show (V ++ (LN ++ ⟨#[10]⟩)).data.toList = TP (k + 1) by rw [HST.out, ← HV.out, hLN]; simp)
      have HLN := Lib.hid hLN
      clear hx hLN hLs
      obtain ⟨kd, row, col, sc, tall, wide, nm, lev, tx⟩ := x
      dsimp only at y0 y1 y2 y3 y4 y5 y6 y7 y8
      obtain ⟨hkd, hrow, hcol, hsc, htall, hwide, hlev, hnm, htx⟩ := hib
      dsimp only at hkd hrow hcol hsc htall hwide hlev hnm htx
      have KI := Lib.hid (push_at wr (.cells #[.int .i64 kd, .int .i64 row, .int .i64 col, .int .i64 sc, .int .i64 tall, .int .i64 wide, .string nm, .int .i64 lev, .string tx] 49 (0, 0)))
      have HBI := Lib.hid (bt0 HBR.out (ba1 wr (.cells #[.int .i64 kd, .int .i64 row, .int .i64 col, .int .i64 sc, .int .i64 tall, .int .i64 wide, .string nm, .int .i64 lev, .string tx] 49 (0, 0))) (Nat.le_refl _))
      rcases hkd with rfl | rfl | rfl
      · have hm := methLine1 1 row col sc tall wide nm lev tx
        go_wp2_with fail
        refine (thing1 ⟨1, row, col, sc, tall, wide, nm, lev, tx⟩ rfl _).mono ?_
        rintro e w2 ⟨rfl, hb2⟩
        have HB2 := Lib.hid (bt0 HBI.out hb2 (Nat.le_refl _))
        clear hb2 y0 y1 y2 y3 y4 y5 y6 y7 y8
        unfold itV
        dsimp only
        go_wp2_with fail
        refine (textLine_any row col sc tall wide lev nm tx _ (by omega) (by omega) (by omega) (by omega) (by omega) (by omega) (HT.out.next HB2.out)).mono ?_
        rw [← HLN.out]
        rintro e w3 ⟨rfl, hb3⟩
        have HB3 := Lib.hid (bt0 HB2.out hb3 (Nat.le_refl _))
        clear hb3
        go_wp2_with fail
        exact ⟨⟨k + 1, _, by omega, by go_num, rfl, HNX.out, HB3.out⟩, by simp [intOf]; omega⟩
      · have hm := methLine2 2 row col sc tall wide nm lev tx
        go_wp2_with fail
        refine (thing2 ⟨2, row, col, sc, tall, wide, nm, lev, tx⟩ rfl _).mono ?_
        rintro e w2 ⟨rfl, hb2⟩
        have HB2 := Lib.hid (bt0 HBI.out hb2 (Nat.le_refl _))
        clear hb2 y0 y1 y2 y3 y4 y5 y6 y7 y8
        unfold itV
        dsimp only
        go_wp2_with fail
        refine (lineLine_any row col sc tall wide lev nm tx _ (by omega) (by omega) (by omega) (by omega) (HT.out.next HB2.out)).mono ?_
        rw [← HLN.out]
        rintro e w3 ⟨rfl, hb3⟩
        have HB3 := Lib.hid (bt0 HB2.out hb3 (Nat.le_refl _))
        clear hb3
        go_wp2_with fail
        exact ⟨⟨k + 1, _, by omega, by go_num, rfl, HNX.out, HB3.out⟩, by simp [intOf]; omega⟩
      · have hm := methLine3 3 row col sc tall wide nm lev tx
        go_wp2_with fail
        refine (thing3 ⟨3, row, col, sc, tall, wide, nm, lev, tx⟩ rfl _).mono ?_
        rintro e w2 ⟨rfl, hb2⟩
        have HB2 := Lib.hid (bt0 HBI.out hb2 (Nat.le_refl _))
        clear hb2 y0 y1 y2 y3 y4 y5 y6 y7 y8
        unfold itV
        dsimp only
        go_wp2_with fail
        refine (symbolLine_any row col sc tall wide lev nm tx _ (by omega) (by omega) (by omega) (by omega) (by omega) (by omega) (HT.out.next HB2.out)).mono ?_
        rw [← HLN.out]
        rintro e w3 ⟨rfl, hb3⟩
        have HB3 := Lib.hid (bt0 HB2.out hb3 (Nat.le_refl _))
        clear hb3
        go_wp2_with fail
        exact ⟨⟨k + 1, _, by omega, by go_num, rfl, HNX.out, HB3.out⟩, by simp [intOf]; omega⟩
    · have hki : ¬ (k : Int) < (items.length : Int) := by omega
      have hke := Lib.hid (show V.data.toList = TL by have h := HV.out; rwa [show k = items.length by omega, HTF.out] at h)
      go_wp2_with fail
      go_ret
      exact ⟨ret_str (ba_eq hke.out), HBR.out⟩
end Go.Proofs.YtlcglclojlffgaaGreatDoor
namespace Go.Proofs.YtlcglclojlffgaaGreatDoor
open Go.RowKit

set_option maxRecDepth 100000 in
set_option maxHeartbeats 1000000 in
theorem eqItem_same (x : It) (w : World) :
    Calls Tryz.prog 49 #[itV x, itV x] w fun e w' => e = .returned (.bool true) ∧ Below w.heap.size w w' := by
  obtain ⟨kd, row, col, sc, tall, wide, nm, lev, tx⟩ := x
  have h1 : (kd != kd) = false := by simp
  have h2 : (row != row) = false := by simp
  have h3 : (col != col) = false := by simp
  have h4 : (sc != sc) = false := by simp
  have h5 : (tall != tall) = false := by simp
  have h6 : (wide != wide) = false := by simp
  have h7 : (nm.toList == nm.toList) = true := by simp
  have h8 : (lev != lev) = false := by simp
  have h9 : (tx.toList == tx.toList) = true := by simp
  go_enter Tryz.func49, Tryz.ntmps49
  go_wp2_with fail
  go_ret
  exact ⟨rfl, ba2 _ _ _⟩
set_option maxRecDepth 100000 in
set_option maxHeartbeats 2000000 in
theorem eqItemS_same (a b : Option Addr) (items : List It) (c d : Nat) (w : World) (hx : itE.At w a items) (hy : itE.At w b items) (hl : items.length ≤ 1048576) :
    Calls Tryz.prog 27 #[.slice a items.length c, .slice b items.length d] w fun e w' => e = .returned (.bool true) ∧ Below w.heap.size w w' := by
  have HX := Lib.hid hx
  have HY := Lib.hid hy
  have h0 : ((items.length : Int) != (items.length : Int)) = false := by simp
  clear hx hy
  go_enter Tryz.func27, Tryz.ntmps27
  go_wp2_with fail
  go_loopw [5] (fun i wr => ∃ k : Nat, k ≤ items.length ∧ i = .int .i64 (k : Int) ∧ Below w.heap.size w wr) (fun i _ => items.length - (intOf i).toNat)
  case atStart => exact ⟨0, Nat.zero_le _, rfl, Below.refl _ _⟩
  case round =>
    obtain ⟨k, hk, rfl, hbr⟩ := hrel
    have HBR := Lib.hid hbr
    clear hbr
    by_cases hlt : k < items.length
    · have hki : (k : Int) < (items.length : Int) := by omega
      obtain ⟨x, hx⟩ : ∃ x, items[k]? = some x := by rw [List.getElem?_eq_getElem hlt]; exact ⟨_, rfl⟩
      have HE := Lib.hid (fun w => eqItem_same x w)
      obtain ⟨b1, o1, rfl, hbl, y0, y1, y2, y3, y4, y5, y6, y7, y8⟩ := it_at (HX.out.below HBR.out) hx
      obtain ⟨b2, o2, rfl, hbl2, z0, z1, z2, z3, z4, z5, z6, z7, z8⟩ := it_at (HY.out.below HBR.out) hx
      clear hx
      obtain ⟨kd, row, col, sc, tall, wide, nm, lev, tx⟩ := x
      dsimp only at y0 y1 y2 y3 y4 y5 y6 y7 y8 z0 z1 z2 z3 z4 z5 z6 z7 z8 HE
      unfold itV at HE
      dsimp only at HE
      go_wp2_with fail
      refine wp_region_ext (by kernel_rfl) (by kernel_rfl) ?_
      repeat (go_big_quiet_step ((go_at_call 49; go_must (exact calls_ext _ (HE.out _)))))
      refine wpQuiet_nil ?_
      rintro _ ⟨s, rfl⟩
      have HB2 := Lib.hid (bt0 HBR.out s.below (Nat.le_refl _))
      clear y0 y1 y2 y3 y4 y5 y6 y7 y8 z0 z1 z2 z3 z4 z5 z6 z7 z8
      go_wp2_with fail
      exact ⟨⟨k + 1, by omega, by go_num, HB2.out⟩, by simp [intOf]; omega⟩
    · have hki : ¬ (k : Int) < (items.length : Int) := by omega
      go_wp2_with fail
      go_ret
      exact ⟨rfl, HBR.out⟩
set_option maxRecDepth 100000 in
set_option maxHeartbeats 1000000 in
theorem eqLabel_same (l : Lb) (a b : Option Addr) (c d : Nat) (w : World) (hx : itE.At w a l.items) (hy : itE.At w b l.items) (hl : l.items.length ≤ 1048576) :
    Calls Tryz.prog 10 #[lbV l a c, lbV l b d] w fun e w' => e = .returned (.bool true) ∧ Below w.heap.size w w' := by
  obtain ⟨rows, cols, items⟩ := l
  dsimp only at hx hy hl ⊢
  have HX := Lib.hid hx
  have HY := Lib.hid hy
  have h1 : (rows != rows) = false := by simp
  have h2 : (cols != cols) = false := by simp
  clear hx hy
  have HB0 := Lib.hid (ba2 w (.cells #[.int .i64 rows, .int .i64 cols, .slice a items.length c] 29 (0, 0)) (.cells #[.int .i64 rows, .int .i64 cols, .slice b items.length d] 29 (0, 0)))
  go_enter Tryz.func10, Tryz.ntmps10
  go_wp2_with fail
  refine (eqItemS_same a b items c d _ (HX.out.below HB0.out) (HY.out.below HB0.out) hl).mono ?_
  rintro e w1 ⟨rfl, hb1⟩
  have HB1 := Lib.hid (bt0 HB0.out hb1 (Nat.le_refl _))
  clear hb1
  go_wp2_with fail
  go_ret
  exact ⟨rfl, HB1.out⟩

end Go.Proofs.YtlcglclojlffgaaGreatDoor
namespace Go.Proofs.YtlcglclojlffgaaGreatDoor
open Go.RowKit

theorem infoIt : (Tryz.prog.info? 49).map (fun i => (i.zero, i.size, i.bytes)) = some (some (.agg #[.int .i64 0, .int .i64 0, .int .i64 0, .int .i64 0, .int .i64 0, .int .i64 0, .string ⟨#[]⟩, .int .i64 0, .string ⟨#[]⟩]), 9, 88) := by kernel_rfl
end Go.Proofs.YtlcglclojlffgaaGreatDoor
namespace Go.Proofs.YtlcglclojlffgaaGreatDoor
open Go.RowKit

theorem wpList_append_it {ops : Array Oper} {rest : List Oper} {o : Oper} {a : Act} {Q : Exit → Act → World → Prop} {W : World} (hgd : o.guard = none) (s x : Operand)
    (ho : o.op = .call { callee := .builtin .append, args := #[s, x], argTypes := #[27, 27] })
    (base : Nat) (v : Value) (xs : List It) (y : It) (hs : a.eval s = v) (hown : itE.Own W base v xs) (g : Nat) (hx : a.eval x = .slice (some ⟨g, 0, none⟩) 1 1)
    (hg : W.heap[g]? = some (.cells #[.int .i64 y.kind, .int .i64 y.row, .int .i64 y.col, .int .i64 y.scale, .int .i64 y.tall, .int .i64 y.wide, .string y.name, .int .i64 y.level, .string y.text] 49 (0, 0))) (hl : xs.length ≤ 1000000000) (hb : base ≤ W.heap.size)
    (h : ∀ a' c' xs' w', xs' = xs ++ [y] → itE.Own w' base (.slice a' xs'.length c') xs' → W.grownBy w' v.ownBlock → Below base W w' → wpList Tryz.prog ops Q rest (a.put o.dst (.slice a' xs'.length c')) w') : wpList Tryz.prog ops Q (o :: rest) a W := by
  obtain ⟨i0, hi, y0, y1, y2⟩ := info_parts infoIt
  exact wpList_append_e itE hgd s x _ ho Tryz.underlying27 i0 _ hi y0 y1 y2 rfl (by decide) base v xs y hs hown g _ hx hg rfl hl hb h
/-- what ReadLabel answers -/
def RetLR (w : World) (o : Option Lb) (e : Ending) (w' : World) : Prop :=
  Below w.heap.size w w' ∧ ((o = none ∧ e = .returned (.tuple #[.agg #[.int .i64 0, .int .i64 0, .slice none 0 0], .bool false])) ∨
    ∃ l v, o = some l ∧ e = .returned (.tuple #[.agg #[.int .i64 l.rows, .int .i64 l.cols, v], .bool true]) ∧ itE.Own w' w.heap.size v l.items)
/-- what a text of lines is read as -/
def labM (h : List UInt8) (mid : List (List UInt8)) (last : List UInt8) : Option Lb :=
  if mid.length ≤ 12 ∧ last = [] then
    match cut 32 h with
    | [h, a, b] => if h = wLab then (match rdec a, rdec b, allO itemI mid with | some x, some y, some xs => some ⟨x, y, xs⟩ | _, _, _ => none) else none
    | _ => none
  else none
theorem labI_parts {s h l : List UInt8} {mid : List (List UInt8)} (he : h :: (mid ++ [l]) = cutN 10 14 s) : labI s = labM h mid l := by
  have e1 : (h :: (mid ++ [l])).length = mid.length + 2 := by simp
  have e2 : (h :: (mid ++ [l])).getLast? = some l := by simp [List.getLast?_cons]
  have e3 : ((h :: (mid ++ [l])).drop 1).dropLast = mid := by simp
  rw [labI, ← he, labM, e1, e2, e3, itemsI_all]
  by_cases h1 : mid.length ≤ 12 ∧ l = []
  · rw [if_pos h1, if_pos ⟨by omega, by omega, by rw [h1.2]⟩]; rfl
  · rw [if_neg h1, if_neg (fun hh => h1 ⟨by omega, by have := hh.2.2; simpa using this⟩)]
theorem labI_short {s : List UInt8} (h : (cutN 10 14 s).length < 2) : labI s = none := by
  rw [labI, if_neg (by omega)]
theorem labI_long {s : List UInt8} (h : 14 < (cutN 10 14 s).length) : labI s = none := by
  rw [labI, if_neg (by omega)]
theorem rdLab_none {s : List UInt8} (h : labI s = none) : rdLab s = none := by rw [rdLab, h]; rfl
theorem rdLab_some {s : List UInt8} {l : Lb} (h : labI s = some l) : rdLab s = if l.ok = true ∧ textL l = s then some l else none := by
  rw [rdLab, h, Option.filter]
  by_cases h1 : l.ok = true ∧ textL l = s
  · rw [if_pos h1, if_pos (by simp [h1.1, h1.2])]
  · rw [if_neg h1, if_neg (by simpa using h1)]

set_option maxRecDepth 100000 in
set_option maxHeartbeats 4000000 in
theorem readLabel_any (s : ByteArray) (w : World) (hs : s.size ≤ 1048576) (hE : Env w) :
    Calls Tryz.prog 13 #[.string s] w (RetLR w (rdLab s.data.toList)) := by
  have HE := Lib.hid hE
  clear hE
  obtain ⟨O, hO⟩ : ∃ O, O = rdLab s.data.toList := ⟨_, rfl⟩
  have HO := Lib.hid hO
  rw [← hO]
  clear hO
  have K0 := Lib.hid (push_at w (.cells #[.int .i64 0, .int .i64 0, .slice none 0 0] 29 (0, 0)))
  have HB0 := Lib.hid (ba1 w (.cells #[.int .i64 0, .int .i64 0, .slice none 0 0] 29 (0, 0)))
  go_enter Tryz.func13, Tryz.ntmps13
  go_wp2_with fail
  refine (splitN_any s 10 15 _ hs (by omega) (by omega) (HE.out.next HB0.out)).mono ?_
  rintro e w1 ⟨ss, cp, hss, rfl, hst, hb1, hcp⟩
  obtain ⟨B, hB⟩ : ∃ B, (w.alloc (.cells #[.int .i64 0, .int .i64 0, .slice none 0 0] 29 (0, 0))).heap.size = B := ⟨_, rfl⟩
  rw [hB] at hst ⊢
  have hBs : w.heap.size < B := by rw [← hB]; simp
  have HSS := Lib.hid hss
  have HST := Lib.hid hst
  have HB1 := Lib.hid (bt0 HB0.out hb1 (Nat.le_refl _))
  have K1 := Lib.hid (blkK hb1 K0.out)
  have HLZ := Lib.hid (show ∀ z ∈ ss, z.size ≤ 1048576 from fun z hz => Nat.le_trans ((cutN_len 10 14 s.data.toList).2.2 _ (by rw [← hss]; exact List.mem_map.2 ⟨z, hz, rfl⟩)) hs)
  have hlen := congrArg List.length hss
  rw [bytesL, List.length_map] at hlen
  have HLN := Lib.hid hlen
  have h15 : ss.length ≤ 15 := by rw [hlen]; exact (cutN_len 10 14 _).1
  clear hss hst hb1 hlen hB
  obtain ⟨hc1, hf1⟩ := heap_cellR K1.out
  have hlt1 := blkLt K1.out
  by_cases h2 : ss.length < 2
  · have h2i : (ss.length : Int) < 2 := by omega
    have HN := Lib.hid (HO.out.trans (rdLab_none (labI_short (by rw [← HLN.out]; exact h2))))
    go_wp2_with fail
    refine bodyPost_ret (v := .tuple #[.agg #[.int .i64 0, .int .i64 0, .slice none 0 0], .bool false]) (by simp [results, Tryz.results13, go_sem, hc1]) rfl ⟨?_, .inl ⟨HN.out, rfl⟩⟩
    iterate 3 (refine Below.setCell ?_ (by dsimp only; omega) _)
    exact HB1.out
  have h2i : ¬ (ss.length : Int) < 2 := by omega
  by_cases h14 : 14 < ss.length
  · have h14i : (14 : Int) < (ss.length : Int) := by omega
    have HN := Lib.hid (HO.out.trans (rdLab_none (labI_long (by rw [← HLN.out]; exact h14))))
    go_wp2_with fail
    refine bodyPost_ret (v := .tuple #[.agg #[.int .i64 0, .int .i64 0, .slice none 0 0], .bool false]) (by simp [results, Tryz.results13, go_sem, hc1]) rfl ⟨?_, .inl ⟨HN.out, rfl⟩⟩
    iterate 3 (refine Below.setCell ?_ (by dsimp only; omega) _)
    exact HB1.out
  obtain ⟨h0, mid, L, rfl⟩ : ∃ h0 mid L, ss = h0 :: (mid ++ [L]) := by
    cases ss with
    | nil => simp at h2
    | cons h0 r =>
      have hr : r ≠ [] := fun e => by subst e; simp at h2
      exact ⟨h0, r.dropLast, r.getLast hr, by rw [List.dropLast_concat_getLast]⟩
  have HM := Lib.hid (labI_parts (h := h0.data.toList) (mid := bytesL mid) (l := L.data.toList) (by rw [← HSS.out]; simp [bytesL]))
  obtain ⟨m, hm⟩ : ∃ m, mid.length = m := ⟨_, rfl⟩
  have hml : (h0 :: (mid ++ [L])).length = m + 2 := by simp [hm]
  have HMM := Lib.hid hm
  have hm12 : m ≤ 12 := by omega
  have hcL : w1.cell? ⟨B, m + 1, none⟩ = some (.string L) := by
    obtain ⟨b0, o0, z, e0, hz, -, hc⟩ := HST.out.at (k := m + 1) (by omega)
    simp only [Option.some.injEq, Addr.mk.injEq, and_true] at e0
    obtain ⟨rfl, rfl⟩ := e0
    rw [Nat.zero_add] at hc
    rw [hc]
    rw [List.getElem?_cons_succ, List.getElem?_append_right (by omega), hm, Nat.sub_self] at hz
    rw [Option.some.inj hz]
  have hch : w1.cell? ⟨B, 0, none⟩ = some (.string h0) := by
    obtain ⟨b0, o0, e0, hc⟩ := HST.out 0 (by omega)
    simp only [Option.some.injEq, Addr.mk.injEq, and_true] at e0
    obtain ⟨rfl, rfl⟩ := e0
    exact hc
  have hlB : B < w1.heap.size := lt_of_cell hch
  have hcp2 : m + 2 ≤ cp := by omega
  rw [hml]
  have h2i : ¬ (m : Int) + 2 < 2 := by omega
  have h14i : ¬ (14 : Int) < (m : Int) + 2 := by omega
  clear h2 h14 h15 hm hml hcp
  by_cases hL : L.data.toList = []
  rotate_left
  · have hLi : L.toList.isEmpty = false := by
      rw [ByteArray.toList_eq, Bool.eq_false_iff, ne_eq, List.isEmpty_iff]; exact hL
    have HN := Lib.hid (HO.out.trans (rdLab_none (HM.out.trans (by rw [labM, if_neg (fun hh => hL hh.2)]))))
    clear hL
    go_wp2_with fail
    refine bodyPost_ret (v := .tuple #[.agg #[.int .i64 0, .int .i64 0, .slice none 0 0], .bool false]) (by simp [results, Tryz.results13, go_sem, hc1]) rfl ⟨?_, .inl ⟨HN.out, rfl⟩⟩
    iterate 3 (refine Below.setCell ?_ (by dsimp only; omega) _)
    exact HB1.out
  have hLi : L.toList.isEmpty = true := by
    rw [ByteArray.toList_eq, List.isEmpty_iff]; exact hL
  have HLe := Lib.hid (show mid.length ≤ 12 ∧ L.data.toList = [] from ⟨by rw [HMM.out]; exact hm12, hL⟩)
  have hh0 : h0.size ≤ 1048576 := HLZ.out h0 (by simp)
  clear hL hc1 hf1
  go_wp2_with fail
  refine (split_any h0 32 _ hh0 (HE.out.next HB1.out)).mono ?_
  rintro e w2 ⟨hs2, hhs, -, hhz, rfl, hw2⟩
  have hb2 : Below w1.heap.size w1 w2 := by rw [hw2]; exact ba1 _ _
  have HH := Lib.hid hhs
  have HHZ := Lib.hid hhz
  have HB2 := Lib.hid (bt0 HB1.out hb2 (Nat.le_refl _))
  have K2 := Lib.hid (blkK hb2 K1.out)
  have HST2 := Lib.hid (HST.out.below hb2)
  have HHS := Lib.hid (show StrsAt w2 (some ⟨w1.heap.size, 0, none⟩) hs2 by rw [hw2]; exact strs_new w1 hs2 _)
  clear hhs hhz hw2 hb2 hcL hch
  obtain ⟨hc2, hf2⟩ := heap_cellR K2.out
  have hlt2 := blkLt K2.out
  have hne : hs2 ≠ [] := fun e => by have h := HH.out; rw [e] at h; exact cut_ne 32 _ h.symm
  by_cases h3 : hs2.length = 3
  rotate_left
  · have h3i : ((hs2.length : Int) != 3) = true := by simp; omega
    have HN := Lib.hid (HO.out.trans (rdLab_none (HM.out.trans (by
      rw [labM]
      split
      · split
        · next he => rw [← HH.out] at he; have := congrArg List.length he; rw [bytesL, List.length_map] at this; exact absurd this h3
        · rfl
      · rfl))))
    clear h3 hne
    go_wp2_with fail
    refine bodyPost_ret (v := .tuple #[.agg #[.int .i64 0, .int .i64 0, .slice none 0 0], .bool false]) (by simp [results, Tryz.results13, go_sem, hc2]) rfl ⟨?_, .inl ⟨HN.out, rfl⟩⟩
    iterate 3 (refine Below.setCell ?_ (by dsimp only; omega) _)
    exact HB2.out
  obtain ⟨q0, q1, q2, rfl⟩ : ∃ q0 q1 q2, hs2 = [q0, q1, q2] := by
    match hs2, h3 with
    | [q0, q1, q2], _ => exact ⟨q0, q1, q2, rfl⟩
  have hq0 : w2.cell? ⟨w1.heap.size, 0, none⟩ = some (.string q0) := by
    obtain ⟨b0, o0, e0, hc⟩ := HHS.out 0 (by simp)
    simp only [Option.some.injEq, Addr.mk.injEq, and_true] at e0
    obtain ⟨rfl, rfl⟩ := e0
    exact hc
  have hq1 : w2.cell? ⟨w1.heap.size, 1, none⟩ = some (.string q1) := by
    obtain ⟨b0, o0, e0, hc⟩ := HHS.out 1 (by simp)
    simp only [Option.some.injEq, Addr.mk.injEq, and_true] at e0
    obtain ⟨rfl, rfl⟩ := e0
    exact hc
  have hq2 : w2.cell? ⟨w1.heap.size, 2, none⟩ = some (.string q2) := by
    obtain ⟨b0, o0, e0, hc⟩ := HHS.out 2 (by simp)
    simp only [Option.some.injEq, Addr.mk.injEq, and_true] at e0
    obtain ⟨rfl, rfl⟩ := e0
    exact hc
  have hl12 : w1.heap.size < w2.heap.size := lt_of_cell hq0
  have hz1 : q1.size ≤ 1048576 := Nat.le_trans (HHZ.out q1 (by simp)) hh0
  have hz2 : q2.size ≤ 1048576 := Nat.le_trans (HHZ.out q2 (by simp)) hh0
  have HM2 := Lib.hid (show labI s.data.toList = if q0.data.toList = wLab then (match rdec q1.data.toList, rdec q2.data.toList, allO itemI (bytesL mid) with | some x, some y, some xs => some ⟨x, y, xs⟩ | _, _, _ => none) else none by
    rw [HM.out, labM, if_pos ⟨by rw [bytesL, List.length_map]; exact HLe.out.1, HLe.out.2⟩, ← HH.out]
    rfl)
  rw [h3]
  have h3i : (((3 : Nat) : Int) != 3) = false := rfl
  clear hne h3 HM
  by_cases hqw : q0.data.toList = wLab
  rotate_left
  · have hqi : (q0.toList == [108, 97, 98, 101, 108]) = false := by
      have h := word_no (a := q0) (b := ⟨#[108, 97, 98, 101, 108]⟩) hqw
      simpa using h
    have HN := Lib.hid (HO.out.trans (rdLab_none (by rw [HM2.out, if_neg hqw])))
    clear hqw
    go_wp2_with fail
    refine bodyPost_ret (v := .tuple #[.agg #[.int .i64 0, .int .i64 0, .slice none 0 0], .bool false]) (by simp [results, Tryz.results13, go_sem, hc2]) rfl ⟨?_, .inl ⟨HN.out, rfl⟩⟩
    iterate 3 (refine Below.setCell ?_ (by dsimp only; omega) _)
    exact HB2.out
  have hqi : (q0.toList == [108, 97, 98, 101, 108]) = true := by
    have h := word_yes (a := q0) (b := ⟨#[108, 97, 98, 101, 108]⟩) hqw
    simpa using h
  have HM3 := Lib.hid (HM2.out.trans (if_pos hqw))
  clear hqw HM2
  go_wp2_with fail
  refine (readDecimal_any q1 _ hz1 (HE.out.next HB2.out)).mono ?_
  rintro e w3 ⟨v1, rfl, hv1, hb3⟩
  have HV1 := Lib.hid hv1
  have HB3 := Lib.hid (bt0 HB2.out hb3 (Nat.le_refl _))
  have K3 := Lib.hid (blkK hb3 K2.out)
  have HST3 := Lib.hid (HST2.out.below hb3)
  have hq2' : w3.cell? ⟨w1.heap.size, 2, none⟩ = some (.string q2) := (hb3.cell (p := ⟨w1.heap.size, 2, none⟩) hl12).trans hq2
  have hl13 : w1.heap.size < w3.heap.size := lt_of_cell hq2'
  obtain ⟨one, hone⟩ : ∃ one, (rdec q1.data.toList).isSome = one := ⟨_, rfl⟩
  have HONE := Lib.hid hone
  rw [hone]
  clear hv1 hb3 hq0 hq1 hq2 hone hc2 hf2
  go_wp2_with fail
  refine (readDecimal_any q2 _ hz2 (HE.out.next HB3.out)).mono ?_
  rintro e w4 ⟨v2, rfl, hv2, hb4⟩
  have HV2 := Lib.hid hv2
  have HB4 := Lib.hid (bt0 HB3.out hb4 (Nat.le_refl _))
  have K4 := Lib.hid (blkK hb4 K3.out)
  have HST4 := Lib.hid (HST3.out.below hb4)
  obtain ⟨two, htwo⟩ : ∃ two, (rdec q2.data.toList).isSome = two := ⟨_, rfl⟩
  have HTWO := Lib.hid htwo
  rw [htwo]
  have hB4 : B < w4.heap.size := by have := hb4.size; omega
  clear hv2 hb4 hq2' htwo
  have hw4 : w.heap.size < w4.heap.size := blkLt K4.out
  go_wp2_with fail
  have KL4 := Lib.hid (push_at w4 (.cells #[.int .i64 v1, .int .i64 v2, .slice none 0 0] 29 (0, 0)))
  have HB4a := Lib.hid (ba1 w4 (.cells #[.int .i64 v1, .int .i64 v2, .slice none 0 0] 29 (0, 0)))
  go_loopw [12, 13, 14, 72] (fun _ _ _ i wr => ∃ (k : Nat) (xs : List It) (v : Value), k ≤ m ∧ i = .int .i64 (k : Int) ∧ allO itemI ((bytesL mid).take k) = some xs ∧ itE.Own wr (w4.heap.size + 1) v xs ∧ wr.heap[w4.heap.size]? = some (.cells #[.int .i64 v1, .int .i64 v2, v] 29 (0, 0)) ∧ Below w4.heap.size w4 wr) (fun _ _ _ i _ => m - (intOf i).toNat)
  case atStart => exact ⟨0, [], .slice none 0 0, Nat.zero_le _, rfl, rfl, Enc.Own.nil itE _ _, KL4.out, HB4a.out⟩
  case round =>
    obtain ⟨k, xs, v, hk, rfl, hall, ho, hkl, hbr⟩ := hrel
    obtain ⟨a, c, rfl⟩ := ho.read
    have HALL := Lib.hid hall
    have HOW := Lib.hid ho
    have KL := Lib.hid hkl
    have HBR := Lib.hid hbr
    have HXL := Lib.hid (show xs.length ≤ 12 by
      have h := allO_len hall
      rw [List.length_take] at h
      omega)
    have KR := Lib.hid (blkK hbr K4.out)
    have HBW := Lib.hid (bt0 HB4.out hbr (Nat.le_refl _))
    have HZR := Lib.hid hbr.size
    clear hall ho hkl hbr
    obtain ⟨hcl, hfl⟩ := heap_cellR KL.out
    have hltl := blkLt KL.out
    obtain ⟨hcr, hfr⟩ := heap_cellR KR.out
    have hltr := blkLt KR.out
    have hlne : ¬ w4.heap.size = w.heap.size := by omega
    have hlne2 : ¬ w.heap.size = w4.heap.size := by omega
    by_cases hlt : k < m
    · have hki : (k : Int) < (m : Int) := by omega
      obtain ⟨z, hz⟩ : ∃ z, mid[k]? = some z := by rw [List.getElem?_eq_getElem (by rw [HMM.out]; exact hlt)]; exact ⟨_, rfl⟩
      have hzs := HLZ.out z (by simp [List.mem_of_getElem? hz])
      have HPK := Lib.hid (show (bytesL mid)[k]? = some z.data.toList by rw [bytesL, List.getElem?_map, hz]; rfl)
      have hcz : wr.cell? ⟨B, 1 + k, none⟩ = some (.string z) := by
        obtain ⟨b0, o0, z', e0, hz', -, hc⟩ := (HST4.out.below HBR.out).at (k := k + 1) (by simp [HMM.out]; omega)
        simp only [Option.some.injEq, Addr.mk.injEq, and_true] at e0
        obtain ⟨rfl, rfl⟩ := e0
        rw [List.getElem?_cons_succ, List.getElem?_append_left (by rw [HMM.out]; exact hlt), hz] at hz'
        rw [Nat.zero_add, Nat.add_comm k 1] at hc
        rw [hc, Option.some.inj hz']
      clear hz
      go_wp2_with fail
      refine (readItem_any z _ hzs (HE.out.next HBW.out)).mono ?_
      rintro e w5 ⟨x, rfl, hx, hb5⟩
      have HIX := Lib.hid hx
      have HB5 := Lib.hid (bt0 HBR.out hb5 (Nat.le_refl _))
      have HBW5 := Lib.hid (bt0 HBW.out hb5 (Nat.le_refl _))
      have HO5 := Lib.hid (HOW.out.grown hb5)
      have KL5 := Lib.hid (blkK hb5 KL.out)
      have K5 := Lib.hid (blkK hb5 KR.out)
      have HZ5 := Lib.hid hb5.size
      clear hx hb5 hcz hcl hfl hcr hfr
      obtain ⟨hcl, hfl⟩ := heap_cellR KL5.out
      obtain ⟨hcr, hfr⟩ := heap_cellR K5.out
      have hltl5 := blkLt KL5.out
      have hltr5 := blkLt K5.out
      cases hd : itemI z.data.toList with
      | none =>
        have HN := Lib.hid (HO.out.trans (rdLab_none (HM3.out.trans (by
          rw [allO_bad (List.mem_of_getElem? HPK.out) hd]
          generalize rdec q1.data.toList = A
          generalize rdec q2.data.toList = C
          cases A <;> cases C <;> rfl))))
        have e9 : (none : Option It).isSome = false := rfl
        rw [e9]
        clear hd e9
        obtain ⟨kd, row, col, sc, tall, wide, nm, lev, tx⟩ := x
        go_wp2_with fail
        refine bodyPost_ret (v := .tuple #[.agg #[.int .i64 0, .int .i64 0, .slice none 0 0], .bool false]) (by simp [results, Tryz.results13, go_sem, hcr, hltr5]) rfl ⟨?_, .inl ⟨HN.out, rfl⟩⟩
        refine bt0 ?_ (ba1 _ _) (Nat.le_refl _)
        iterate 3 (refine Below.setCell ?_ (by dsimp only; omega) _)
        exact HBW5.out
      | some y =>
        obtain rfl := HIX.out y hd
        have HD := Lib.hid (allO_take HPK.out HALL.out hd)
        have e9 : (some x : Option It).isSome = true := rfl
        rw [e9]
        have hxl := HXL.out
        clear hd e9
        obtain ⟨kd, row, col, sc, tall, wide, nm, lev, tx⟩ := x
        have hz5 := HZ5.out
        have hzr := HZR.out
        go_wp2_with (at_builtin; refine wpList_append_it (o := _) rfl (.tmp 85) (.tmp 87) rfl (w4.heap.size + 1) (.slice a xs.length c) xs ⟨kd, row, col, sc, tall, wide, nm, lev, tx⟩ rfl ((HO5.out.grown (ba1 _ _)).grown (ba1 _ _)) (w5.heap.size + 1) rfl (heap2 w5 _ _).2 ?c3 ?c4 ?h8)
        case c3 => omega
        case c4 => simp; omega
        case h8 =>
        intro a8 c8 l8 w8 he8 ho8 hg8 hb8
        have HE8 := Lib.hid he8
        have KL8 := Lib.hid (show w8.heap[w4.heap.size]? = some (.cells #[.int .i64 v1, .int .i64 v2, .slice a xs.length c] 29 (0, 0)) from (hg8.block _ (by simp; omega) (fun e => by have := HO5.out.lo _ e.symm; omega)).trans (push_old (push_old KL5.out)))
        have HB8 := Lib.hid (show Below w4.heap.size w4 w8 from (bt0 HB5.out (ba2 _ _ _) (Nat.le_refl _)).trans (hb8.mono (by omega)))
        have HO8 := Lib.hid ho8
        clear he8 ho8 hg8 hb8 hcl hfl
        obtain ⟨hcl, hfl⟩ := heap_cellR KL8.out
        have hltl8 := blkLt KL8.out
        go_wp2_with fail
        go_roundw
        case rel => exact ⟨_, _, _, _, _, _, _, _, _, _, _, _, _, _, _, _, _, _, _, _, _, _, _, ⟨k + 1, l8, .slice a8 l8.length c8, by omega, by go_num, by rw [HE8.out]; exact HD.out, HO8.out.src (by omega) (grownBy_set _ _ _ _), src_set KL8.out 2 _, HB8.out.setCell (Nat.le_refl _) _⟩, rfl⟩
        case measure => simp [intOf]; omega
    · obtain rfl : k = m := by omega
      have hki : ¬ (k : Int) < (k : Int) := by omega
      have HXS := Lib.hid (show allO itemI (bytesL mid) = some xs by have h := HALL.out; rwa [List.take_of_length_le (by rw [bytesL, List.length_map, HMM.out]; exact Nat.le_refl _)] at h)
      have HM4 := Lib.hid (HM3.out)
      rw [HXS.out] at HM4
      clear HM3 HALL
      cases hd1 : rdec q1.data.toList with
      | none =>
        have HN := Lib.hid (HO.out.trans (rdLab_none (HM4.out.trans (by rw [hd1]))))
        have e1 : one = false := by rw [← HONE.out, hd1]; rfl
        subst e1
        clear hd1
        go_wp2_with fail
        refine bodyPost_ret (v := .tuple #[.agg #[.int .i64 0, .int .i64 0, .slice none 0 0], .bool false]) (by simp [results, Tryz.results13, go_sem, hcr]) rfl ⟨?_, .inl ⟨HN.out, rfl⟩⟩
        iterate 3 (refine Below.setCell ?_ (by dsimp only; omega) _)
        exact HBW.out
      | some u1 =>
      obtain rfl := HV1.out u1 hd1
      have e1 : one = true := by rw [← HONE.out, hd1]; rfl
      subst e1
      cases hd2 : rdec q2.data.toList with
      | none =>
        have HN := Lib.hid (HO.out.trans (rdLab_none (HM4.out.trans (by rw [hd1, hd2]))))
        have e2 : two = false := by rw [← HTWO.out, hd2]; rfl
        subst e2
        clear hd1 hd2
        go_wp2_with fail
        refine bodyPost_ret (v := .tuple #[.agg #[.int .i64 0, .int .i64 0, .slice none 0 0], .bool false]) (by simp [results, Tryz.results13, go_sem, hcr]) rfl ⟨?_, .inl ⟨HN.out, rfl⟩⟩
        iterate 3 (refine Below.setCell ?_ (by dsimp only; omega) _)
        exact HBW.out
      | some u2 =>
      obtain rfl := HV2.out u2 hd2
      have e2 : two = true := by rw [← HTWO.out, hd2]; rfl
      subst e2
      have HL := Lib.hid (HO.out.trans (rdLab_some (l := ⟨v1, v2, xs⟩) (HM4.out.trans (by rw [hd1, hd2]))))
      have HIS := Lib.hid (isLabel_any ⟨v1, v2, xs⟩ a c wr HOW.out.at (fun x hx => by
        obtain ⟨lz, hlz, he⟩ := allO_mem HXS.out hx
        obtain ⟨z, hz, rfl⟩ := List.mem_map.1 hlz
        exact Nat.le_trans (itemI_sz he).1 (HLZ.out z (by simp [hz]))) (by have := HXL.out; show xs.length ≤ _; omega))
      have HLT := Lib.hid (fun w' h hok hT => labelTextIn_any ⟨v1, v2, xs⟩ a c w' h hok hT)
      obtain ⟨ok, hok⟩ : ∃ ok, ok = (⟨v1, v2, xs⟩ : Lb).ok := ⟨_, rfl⟩
      obtain ⟨TX, hTX⟩ : ∃ TX, TX = textL ⟨v1, v2, xs⟩ := ⟨_, rfl⟩
      rw [← hok] at HIS HLT HL
      rw [← hTX] at HLT HL
      obtain ⟨TB, hTB⟩ : ∃ TB : ByteArray, TB = ⟨TX.toArray⟩ := ⟨_, rfl⟩
      rw [← hTB] at HLT
      have HTB := Lib.hid (show TB.data.toList = TX by rw [hTB])
      unfold lbV at HIS HLT
      dsimp only at HIS HLT
      have HXA := Lib.hid HOW.out.at
      clear hd1 hd2 hok hTX hTB HXS HM4
      go_wp2_with fail
      refine HIS.out.mono ?_
      rintro e w5 ⟨rfl, hb5⟩
      have HBW5 := Lib.hid (bt0 HBW.out hb5 (Nat.le_refl _))
      have HO5 := Lib.hid (HOW.out.grown hb5)
      have KL5 := Lib.hid (blkK hb5 KL.out)
      have K5 := Lib.hid (blkK hb5 KR.out)
      clear hb5 hcl hfl hcr hfr
      obtain ⟨hcl, hfl⟩ := heap_cellR KL5.out
      obtain ⟨hcr, hfr⟩ := heap_cellR K5.out
      have hltl5 := blkLt KL5.out
      have hltr5 := blkLt K5.out
      rcases Bool.eq_false_or_eq_true ok with rfl | rfl
      rotate_left
      · have HN := Lib.hid (show O = none by rw [HL.out, if_neg (by simp)])
        go_wp2_with fail
        refine bodyPost_ret (v := .tuple #[.agg #[.int .i64 0, .int .i64 0, .slice none 0 0], .bool false]) (by simp [results, Tryz.results13, go_sem, hcr]) rfl ⟨?_, .inl ⟨HN.out, rfl⟩⟩
        iterate 3 (refine Below.setCell ?_ (by dsimp only; omega) _)
        exact HBW5.out
      have HLT5 := Lib.hid (HLT.out w5 HO5.out.at rfl (HE.out.next HBW5.out).tab)
      go_wp2_with fail
      refine HLT5.out.mono ?_
      rintro e w6 ⟨rfl, hb6⟩
      have HBW6 := Lib.hid (bt0 HBW5.out hb6 (Nat.le_refl _))
      have HO6 := Lib.hid (HO5.out.grown hb6)
      have KL6 := Lib.hid (blkK hb6 KL5.out)
      have K6 := Lib.hid (blkK hb6 K5.out)
      clear hb6 hcl hfl hcr hfr
      obtain ⟨hcl, hfl⟩ := heap_cellR KL6.out
      obtain ⟨hcr, hfr⟩ := heap_cellR K6.out
      have hltl6 := blkLt KL6.out
      have hltr6 := blkLt K6.out
      by_cases hts : TX = s.data.toList
      · have HY := Lib.hid (show O = some ⟨v1, v2, xs⟩ by rw [HL.out, if_pos ⟨by trivial, hts⟩])
        have hti : (TB.toList == s.toList) = true := word_yes (by rw [HTB.out]; exact hts)
        clear hts
        go_wp2_with fail
        refine bodyPost_ret (v := .tuple #[.agg #[.int .i64 v1, .int .i64 v2, .slice a xs.length c], .bool true]) (by simp [results, Tryz.results13, go_sem, hcr]) rfl ⟨?_, .inr ⟨⟨v1, v2, xs⟩, _, HY.out, rfl, ?_⟩⟩
        · iterate 3 (refine Below.setCell ?_ (by dsimp only; omega) _)
          exact HBW6.out
        · refine Enc.Own.weak (base := w4.heap.size + 1) ?_ (by omega)
          exact ((HO6.out.src (by omega) (grownBy_set _ _ _ _)).src (by omega) (grownBy_set _ _ _ _)).src (by omega) (grownBy_set _ _ _ _)
      · have HN := Lib.hid (show O = none by rw [HL.out, if_neg (fun h => hts h.2)])
        have hti : (TB.toList == s.toList) = false := word_no (by rw [HTB.out]; exact hts)
        clear hts
        go_wp2_with fail
        refine bodyPost_ret (v := .tuple #[.agg #[.int .i64 0, .int .i64 0, .slice none 0 0], .bool false]) (by simp [results, Tryz.results13, go_sem, hcr]) rfl ⟨?_, .inl ⟨HN.out, rfl⟩⟩
        iterate 3 (refine Below.setCell ?_ (by dsimp only; omega) _)
        exact HBW6.out

end Go.Proofs.YtlcglclojlffgaaGreatDoor
