import Derived.Test.YtlcglclojlffgaaGreatVSpSh
namespace Go.Proofs.YtlcglclojlffgaaGreat
open Go.RowKit

set_option maxRecDepth 100000 in
set_option maxHeartbeats 2000000 in
theorem spElems_any (a : Option Addr) (l : List Int) (n c wd : Nat) (w : World) (hn : n = l.length) (hx : IntsAt w a l) (hb : Bits l) (hl : l.length ≤ 100000) (hw1 : 1 ≤ wd) (hw : wd ≤ 8) :
    Calls Tryz.prog 58 #[.int .i64 (wd : Int), .slice a n c] w (RetSl w (elemsC wd l)) := by
  subst hn
  have HX := Lib.hid hx
  have HBt := Lib.hid hb
  obtain ⟨len, hlen⟩ : ∃ len, len = l.length := ⟨_, rfl⟩
  rw [← hlen] at hl ⊢
  have HLEN := Lib.hid hlen
  obtain ⟨Q, hQ⟩ : ∃ Q, Q = len / wd := ⟨_, rfl⟩
  have HEL := Lib.hid (show elemsC wd l = (List.range Q).map fun i => numB ((l.drop (i * wd)).take wd) by rw [elemsC, hQ, hlen])
  have HO0 := Lib.hid (own_emptyB (w := w) (B := w.heap.size) (Nat.le_refl _) rfl)
  have HQ1 := Lib.hid (show ∀ j, j * wd + wd ≤ len ↔ j < Q by
    intro j
    rw [hQ, Nat.lt_iff_add_one_le, Nat.le_div_iff_mul_le hw1, Nat.add_mul, Nat.one_mul])
  have hQl : Q ≤ len := by rw [hQ]; exact Nat.div_le_self _ _
  clear hx hb hlen hQ
  go_enter Tryz.func58, Tryz.ntmps58
  go_wp2_with fail
  go_loopw [5, 6] (fun v i wr => ∃ (j p : Nat) (a' : Option Addr) (c' : Nat) (M : List Int), j ≤ Q ∧ p = j * wd ∧ i = .int .i64 p ∧ M = (List.range j).map (fun i => numB ((l.drop (i * wd)).take wd)) ∧ p ≤ len ∧ v = .slice a' M.length c' ∧ OwnI wr w.heap.size (.slice a' M.length c') M ∧ Below w.heap.size w wr) (fun _ i _ => len - (intOf i).toNat)
  case atStart => exact ⟨0, 0, _, 0, [], Nat.zero_le _, by simp, rfl, rfl, Nat.zero_le _, rfl, HO0.out, ba1 _ _⟩
  case round =>
    obtain ⟨j, p, a', c', M, hj, hp, rfl, hM, hpl, rfl, ho, hb⟩ := hrel
    have HM := Lib.hid hM
    have HP := Lib.hid hp
    have HO := Lib.hid ho
    have HB := Lib.hid hb
    have HML := Lib.hid (show M.length = j by rw [hM]; simp)
    obtain ⟨q, hq⟩ : ∃ q, q = p + wd := ⟨_, rfl⟩
    have hqi : (p : Int) + (wd : Int) = (q : Int) := by omega
    have HQe := Lib.hid hq
    have hjq := (HQ1.out j)
    rw [← hp, ← hq] at hjq
    clear hM hp ho hb
    by_cases hlt : j < Q
    · have hql : (q : Int) ≤ (len : Int) := by have := hjq.2 hlt; omega
      have hpq : p < q := by omega
      have HN := Lib.hid (fun w' (hb : Below w.heap.size w w') => spNum_any a l len c p wd w' HLEN.out (HX.out.below hb) HBt.out (by rw [← HLEN.out]; exact hl) (by rw [← HLEN.out, ← hq]; omega) hw)
      obtain ⟨z, hz⟩ : ∃ z, z = numB ((l.drop p).take wd) := ⟨_, rfl⟩
      rw [← hz] at HN
      have HST := Lib.hid (show (List.range (j + 1)).map (fun i => numB ((l.drop (i * wd)).take wd)) = M ++ [z] by rw [List.range_succ, List.map_append, ← HM.out, hz, HP.out]; rfl)
      have HQW := Lib.hid (show q = (j + 1) * wd by rw [hq, HP.out, Nat.add_mul, Nat.one_mul])
      have HBx := Lib.hid (push_at wr (.cells #[.int .i64 z] 2 (0, 0)))
      have HO2 := Lib.hid (HO.out.grown (ba1 wr (.cells #[.int .i64 z] 2 (0, 0))))
      have HB2 := Lib.hid (bt0 HB.out (ba1 wr (.cells #[.int .i64 z] 2 (0, 0))) (Nat.le_refl _))
      have HJL := Lib.hid (show j ≤ 100000 by omega)
      clear hz hq hjq
      go_wp2_with fail
      refine (HN.out _ HB.out).mono ?_
      rintro e w3 ⟨rfl, rfl⟩
      go_wp2_with (at_builtin; refine wpList_append_i1 rfl (.tmp 17) (.tmp 22) 24 Tryz.underlying24 rfl w.heap.size (.slice a' M.length c') M z rfl HO2.out _ rfl HBx.out (by rw [HML.out]; exact Nat.le_trans HJL.out (by decide)) HB2.out.size ?h9)
      case h9 =>
        intro a5 c5 l5 w5 he5 ho5 hg5 hb5
        have HE5 := Lib.hid he5
        have HO5 := Lib.hid ho5
        have HB5 := Lib.hid (HB2.out.trans hb5)
        clear he5 ho5 hg5 hb5
        go_wp2_with fail
        exact ⟨⟨j + 1, q, a5, c5, l5, by omega, HQW.out, by go_num, by rw [HE5.out, HST.out], by omega, rfl, HO5.out, HB5.out⟩, by simp [intOf]; omega⟩
    · obtain rfl : j = Q := by omega
      have hql : ¬ (q : Int) ≤ (len : Int) := by
        have : ¬ q ≤ len := fun h => hlt (hjq.1 h)
        omega
      have HEE := Lib.hid (show M = elemsC wd l by rw [HM.out, HEL.out])
      clear hq hjq
      go_wp2_with fail
      go_ret
      rw [← HEE.out]
      exact ⟨a', c', rfl, HO.out, HB.out⟩

end Go.Proofs.YtlcglclojlffgaaGreat
