import Derived.Test.YtlcglclojlffgaaGreatVAppS
import Derived.Test.YtlcglclojlffgaaGreatVSgsI
namespace Go.Proofs.YtlcglclojlffgaaGreat
open Go.RowKit

theorem Enc.At.kept {α : Type} {E : Enc α} {w w' : World} {a : Option Addr} {xs : List α} (h : E.At w a xs) (hk : ∀ b o, a = some ⟨b, o, none⟩ → w'.heap[b]? = w.heap[b]?) : E.At w' a xs := fun i x hx => by
  obtain ⟨b, o, e, hc⟩ := h i x hx
  exact ⟨b, o, e, fun j u hu => by rw [← hc j u hu]; simp [World.cell?, hk b o e]⟩
theorem flat_le (xs : List (Nat × List UInt8)) (k : Nat) : ((xs.take k).flatMap segB).length ≤ (xs.flatMap segB).length := by
  have h : xs.flatMap segB = (xs.take k).flatMap segB ++ (xs.drop k).flatMap segB := by rw [← List.flatMap_append, List.take_append_drop]
  rw [h, List.length_append]; omega
theorem segsC_le : ∀ (n : Nat) (s : List UInt8), s.length ≤ n → (segsC s).length ≤ s.length
  | n, [], _ => by simp [segsC, segsF]
  | 0, c :: l, h => by simp at h
  | n + 1, c :: l, h => by
    obtain ⟨k, m, h1, h2, h3, h4, h5, h6, h7, h8, h9, h10⟩ := (hdC_ok (s := c :: l) (by simp)).t
    have h11 := segsC_le n ((c :: l).drop k) (by rw [List.length_drop]; simp at h ⊢; omega)
    rw [segsC_cons, h1, List.length_cons, Int.toNat_natCast]
    rw [List.length_drop] at h11
    omega
set_option maxRecDepth 100000 in
set_option maxHeartbeats 2000000 in
theorem appendMessage_any (base : Nat) (a : Option Addr) (c : Nat) (l : List Int) (s : ByteArray) (w : World) (ho : OwnI w base (.slice a l.length c) l) (hb : base ≤ w.heap.size) (hl : l.length ≤ 100) (hs : s.size ≤ 400) :
    Calls Tryz.prog 40 #[.slice a l.length c, .string s] w (RetMore base w (.slice a l.length c) (l ++ msgB s.data.toList)) := by
  have HOK := Lib.hid (segsC_ok _ s.data.toList (Nat.le_refl _))
  have hml := msgB_len _ s.data.toList (Nat.le_refl _)
  have hbd := (hdC_bd _ s.data.toList (Nat.le_refl _)).2.1
  have hsl : s.data.toList.length = s.size := rfl
  rw [hsl] at hbd
  have hml2 : (msgB s.data.toList).length ≤ 7600 := by omega
  obtain ⟨X, hX⟩ : ∃ X, X = segsC s.data.toList := ⟨_, rfl⟩
  have HMB := Lib.hid (show msgB s.data.toList = X.flatMap segB by rw [hX]; rfl)
  rw [← hX] at HOK
  have hXl : X.length ≤ 400 := by rw [hX]; exact Nat.le_trans (segsC_le _ _ (Nat.le_refl _)) hs
  rw [HMB.out] at hml2
  have HX := Lib.hid hX
  have HO := Lib.hid ho
  have HNE : Hid (∀ b, w.heap.size ≤ b → (Value.slice a l.length c).ownBlock ≠ some b) := Lib.hid (fun b hb e => absurd (ho.hi b e) (by omega))
  clear ho hX hml hbd hsl
  go_enter Tryz.func40, Tryz.ntmps40
  go_wp2_with fail
  refine (bestSegments_any s _ hs).mono ?_
  rw [← HX.out]
  rintro e w2 ⟨sa, sc, rfl, hown, hb2⟩
  have HSO := Lib.hid hown
  have HB2 := Lib.hid hb2
  have HSA := Lib.hid hown.at
  have hlo : Hid (∀ b o, sa = some ⟨b, o, none⟩ → X.length ≠ 0 → w.heap.size ≤ b ∧ b < w2.heap.size) := Lib.hid (fun b o e hx => by
    have h0 : 0 < X.length := by omega
    obtain ⟨b1, o1, e1, hlt, -, -⟩ := sg_at hown.at (i := 0) (List.getElem?_eq_getElem h0)
    subst e
    cases e1
    refine ⟨?_, hlt⟩
    rcases hown.2 with ⟨h1, h2⟩ | ⟨g, cap, cur, h1, h2, h3⟩
    · omega
    · simp only [Value.slice.injEq] at h1
      cases h1.1
      exact h2)
  clear hown hb2
  go_wp2_with fail
  go_loopw [0, 6, 10] (fun v _ i wr => ∃ (k : Nat) (a' : Option Addr) (c' : Nat) (M : List Int), k ≤ X.length ∧ i = .int .i64 k ∧ v = .slice a' M.length c' ∧ M = l ++ (X.take k).flatMap segB ∧ MoreI base w2 (.slice a l.length c) wr (.slice a' M.length c') M) (fun _ _ i _ => X.length - (intOf i).toNat)
  case atStart => exact ⟨0, a, c, l, Nat.zero_le _, rfl, rfl, by simp, MoreI.refl (HO.out.grown HB2.out)⟩
  case round =>
    obtain ⟨k, a', c', M, hk, rfl, rfl, hM, hm⟩ := hrel
    have HM := Lib.hid hm
    have HMe := Lib.hid hM
    have hMl : M.length ≤ 8000 := by
      have := flat_le X k
      rw [hM, List.length_append]; omega
    clear hM hm
    by_cases hlt : k < X.length
    · have hki : (k : Int) < (X.length : Int) := by omega
      have hat : sgE.At wr sa X := HSA.out.kept (fun b o e => by
        have h := hlo.out b o e (by omega)
        exact HM.out.kept b h.2 (HNE.out b h.1))
      obtain ⟨⟨m, t⟩, hmt⟩ : ∃ x, x = X[k] := ⟨_, rfl⟩
      have hXk : X[k]? = some (m, t) := by rw [hmt]; exact List.getElem?_eq_getElem hlt
      obtain ⟨b1, o1, rfl, hb1, hc0, hc1⟩ := sg_at hat hXk
      have hok := HOK.out _ (List.mem_of_getElem? hXk)
      have HXk := Lib.hid hXk
      dsimp only at hc0 hc1
      obtain ⟨st, hst⟩ : ∃ st : ByteArray, st = ⟨t.toArray⟩ := ⟨_, rfl⟩
      have hstl : st.data.toList = t := by rw [hst]
      rw [← hst] at hc1
      have HOKk := Lib.hid (show SegOk (m, st.data.toList) by rw [hstl]; exact hok)
      have HSt := Lib.hid hstl
      clear hat hmt hXk hok hst hstl
      go_wp2_with fail
      refine (appendSegment_any base a' c' M m st _ (HM.out.own.grown (ba1 _ _)) (Nat.le_trans (Nat.le_trans hb HB2.out.size) (Nat.le_trans HM.out.below.size (by simp))) (by omega) HOKk.out).mono ?_
      rintro e w9 ⟨a9, c9, l9, hl9, rfl, hm9⟩
      have HM9 := Lib.hid (HM.out.trans (hm9.since (ba1 _ _) (Nat.le_trans (Nat.le_trans hb HB2.out.size) HM.out.below.size)))
      have HL9 := Lib.hid hl9
      clear hl9 hm9
      go_wp2_with fail
      refine ⟨⟨k + 1, a9, c9, l9, by omega, by go_num, rfl, ?_, HM9.out⟩, by simp [intOf]; omega⟩
      rw [HL9.out, HMe.out, take_snoc' HXk.out, List.flatMap_append, HSt.out]
      simp
    · have hki : ¬ (k : Int) < (X.length : Int) := by omega
      obtain rfl : k = X.length := by omega
      go_wp2_with fail
      refine bodyPost_ret (v := .slice a' M.length c') (by simp [results, Tryz.results40, go_sem]) rfl ?_
      exact ⟨a', c', M, by rw [HMe.out, List.take_of_length_le (Nat.le_refl _), HMB.out], rfl, HM.out.since HB2.out hb⟩

end Go.Proofs.YtlcglclojlffgaaGreat
