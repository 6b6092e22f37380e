import Derived.Test.YtkmfgchbfchdbaaDoorVJnR
import Derived.Test.YtkmfgchbfchdbaaDoorVRcE
import Derived.Lib.ConvBytes
namespace Go.Proofs.YtkmfgchbfchdbaaDoor
open Go.RowKit

theorem recJ_some {f n : Nat} {s : Int} {rest : List UInt8} {r : Rc} (h : readJ n s rest = some r) : recJ (f + 1) n s rest = r :: recJ f (n + 1) (nextJ n s r) (rest.drop ((lineJ n s r).length + 1)) := by rw [recJ, h]
theorem recJ_none {f n : Nat} {s : Int} {rest : List UInt8} (h : readJ n s rest = none) : recJ f n s rest = [] := by
  cases f with
  | zero => rw [recJ]
  | succ f => rw [recJ, h]
theorem bysWorld_at (w : World) (s : ByteArray) : BysAt (Lib.bytesWorld w 5 s) (some ⟨w.heap.size, 0, none⟩) s.data.toList := by
  intro i x hx
  have hi : i < s.size := (List.getElem?_eq_some_iff.1 hx).1
  refine ⟨w.heap.size, 0, rfl, ?_⟩
  rw [Nat.zero_add, Lib.bytesWorld_cell w _ s i hi, List.getD_eq_getElem?_getD, hx]; rfl
theorem row_type {w : World} {base n size g : Nat} {t : TypeId} {v : Value} {xs : List Value} (h : w.ownsRow base t size v n xs) (hg : v.ownBlock = some g) : ∃ cur, w.heap[g]? = some (.cells cur t (0, 0)) := by
  rcases h.2 with ⟨rfl, _⟩ | ⟨g', cap, cur, rfl, _, hg', _⟩
  · simp [Value.ownBlock] at hg
  · simp [Value.ownBlock] at hg; subst hg; exact ⟨cur, hg'⟩
theorem rows_apart {w : World} {b1 n1 s1 b2 n2 s2 g : Nat} {t1 t2 : TypeId} {v1 v2 : Value} {xs ys : List Value} (h1 : w.ownsRow b1 t1 s1 v1 n1 xs) (h2 : w.ownsRow b2 t2 s2 v2 n2 ys) (ht : t1 ≠ t2) (hg : v1.ownBlock = some g) : v2.ownBlock ≠ some g := fun h => by
  obtain ⟨c1, e1⟩ := row_type h1 hg
  obtain ⟨c2, e2⟩ := row_type h2 h
  rw [e1] at e2
  simp only [Option.some.injEq, Obj.cells.injEq] at e2
  exact ht e2.2.1
theorem JSt.other {w w' : World} {J n : Nat} {s : Int} {l : List UInt8} {v : Value} {base : Nat} {xs : List Rc} (h : JSt w J n s l) (hx : rcE.Own w base v xs) (hJ : J < base) (hg : w.grownBy w' v.ownBlock) : JSt w' J n s l := by
  obtain ⟨a, c, h1, h2⟩ := h
  refine ⟨a, c, (hg.block J (blkLt h1) (fun e => by have := hx.lo _ e.symm; omega)).trans h1, h2.other hg (fun k hk e => ?_)⟩
  exact rows_apart h2 hx (by decide) hk e

/-- what stands at the beginning of a round of recovered -/
structure RcvSt (w : World) (s : List UInt8) (l : List Rc) (a : Option Addr) (c : Nat) (wr : World) : Prop where
  ok : ∀ r ∈ l, r.ok = true
  len : l.length ≤ 300
  got : recJ 300 0 0 s = l ++ recJ (300 - l.length) l.length (lastJ 0 0 l) (s.drop (textJ 0 0 l).length)
  fit : (textJ 0 0 l).length ≤ s.length
  own : rcE.Own wr (w.heap.size + 1) (.slice a l.length c) l
  jn : JSt wr w.heap.size l.length (lastJ 0 0 l) (textJ 0 0 l)
  bel : Below w.heap.size w wr
theorem RcvSt.next {w : World} {s : List UInt8} {l : List Rc} {a a' : Option Addr} {c c' : Nat} {wr wz : World} {r : Rc} (h : RcvSt w s l a c wr) (hl : l.length < 300) (hr : readJ l.length (lastJ 0 0 l) (s.drop (textJ 0 0 l).length) = some r)
    (own : rcE.Own wz (w.heap.size + 1) (.slice a' (l ++ [r]).length c') (l ++ [r])) (jn : JSt wz w.heap.size (l.length + 1) (nextJ l.length (lastJ 0 0 l) r) (textJ 0 0 l ++ (lineJ l.length (lastJ 0 0 l) r ++ [10]))) (bel : Below w.heap.size w wz) : RcvSt w s (l ++ [r]) a' c' wz := by
  obtain ⟨hok, t, ht⟩ := (readJ_iff _ _ _ _).1 hr
  have e1 : textJ 0 0 (l ++ [r]) = textJ 0 0 l ++ (lineJ l.length (lastJ 0 0 l) r ++ [10]) := by rw [textJ_snoc, Nat.zero_add]
  have e2 : lastJ 0 0 (l ++ [r]) = nextJ l.length (lastJ 0 0 l) r := by rw [lastJ_snoc, Nat.zero_add]
  refine ⟨?_, by simp; omega, ?_, ?_, own, ?_, bel⟩
  · intro x hx
    rcases List.mem_append.1 hx with hx | hx
    · exact h.ok x hx
    · simp at hx; subst hx; exact hok
  · rw [h.got, show 300 - l.length = (300 - (l.length + 1)) + 1 by omega, recJ_some hr, e2, e1, List.drop_drop]
    simp
  · have := congrArg List.length ht
    rw [e1]
    simp only [List.length_drop, List.length_append, List.length_cons, List.length_nil] at this ⊢
    have := h.fit
    omega
  · rw [e1, e2]; simpa using jn

set_option maxRecDepth 100000 in
set_option pp.deepTerms true in
set_option maxHeartbeats 1000000 in
theorem recovered_any (s : ByteArray) (w : World) (hs : s.size ≤ 20000) (hE : Env w) :
    Calls Tryd.prog 31 #[.string s] w fun e w' => ∃ a c l, l = recJ 300 0 0 s.data.toList ∧ e = .returned (.tuple #[.slice a l.length c, .pointer (some ⟨w.heap.size, 0, none⟩)]) ∧ RcvSt w s.data.toList l a c w' := by
  have HE := Lib.hid hE
  have hsl : s.data.toList.length = s.size := rfl
  clear hE
  have HR0 : Hid (RcvSt w s.data.toList [] (some ⟨w.heap.size + 1, 0, none⟩) 0 ((w.alloc (.cells #[.slice none 0 0, .int .i64 0, .int .i64 0] 67 (0, 0))).alloc (.cells #[] 35 (0, 0)))) := Lib.hid (by
    refine ⟨by simp, by simp, by simp [lastJ, textJ], by simp [textJ], ?_, ⟨none, 0, (heap2 w _ _).1, OwnB.nil _ _⟩, ba2 w _ _⟩
    have h := Enc.Own.new rcE (w.alloc (.cells #[.slice none 0 0, .int .i64 0, .int .i64 0] 67 (0, 0)))
    rw [World.size_alloc] at h
    exact h)
  go_enter Tryd.func31, Tryd.ntmps31
  go_wp2_with fail
  go_loopw [5, 6, 7] (fun q _ _ wr => ∃ (l : List Rc) (a : Option Addr) (c : Nat), q = .slice a l.length c ∧ RcvSt w s.data.toList l a c wr) (fun q _ _ _ => 300 - (match q with | .slice _ n _ => n | _ => 0))
  case atStart => exact ⟨[], _, 0, rfl, HR0.out⟩
  case round =>
    clear HR0
    obtain ⟨l, a, c, rfl, hst⟩ := hrel
    have HST := Lib.hid hst
    by_cases hlt : l.length < 300
    · obtain ⟨ja, jc, hj1, hj2⟩ := hst.jn
      obtain ⟨hcj, hfj⟩ := heap_cellR hj1
      have hfit := hst.fit
      rw [hsl] at hfit
      have hwz : w.heap.size ≤ wr.heap.size := hst.bel.size
      have hwl := blkLt hj1
      clear hst hj1 hj2
      obtain ⟨N, hN⟩ : ∃ N, (textJ 0 0 l).length = N := ⟨_, rfl⟩
      rw [hN] at hcj hfit
      have HN := Lib.hid hN
      obtain ⟨rs, hrs⟩ : ∃ rs, s.extract N s.size = rs := ⟨_, rfl⟩
      have hrl : rs.data.toList = s.data.toList.drop N := by
        rw [← hrs]
        simp only [ByteArray.data_extract, Array.toList_extract, List.extract_eq_take_drop]
        rw [List.take_of_length_le]
        simp [hsl]
      have hrz : rs.size ≤ 20000 := by
        have h1 := congrArg List.length hrl
        rw [List.length_drop] at h1
        have h2 : rs.data.toList.length = rs.size := rfl
        omega
      have hcv := Lib.run_convert_string_bytes (P := Tryd.prog) wr 9 28 5 rs Tryd.underlying9 Tryd.underlying28 Tryd.underlying5
      have HRL := Lib.hid hrl
      have HBB := Lib.hid (Lib.bytesWorld_below wr 5 rs)
      have hwB : (Lib.bytesWorld wr 5 rs).heap.size = wr.heap.size + 1 := Lib.bytesWorld_size _ _ _
      have HAT := Lib.hid (bysWorld_at wr rs)
      have HCG := Lib.hid (show rs.size ≤ grownCap wr rs.size 0 5 ∧ grownCap wr rs.size 0 5 ≤ maxLen from ⟨grownCap_ge _ _ _ _, grownCap_le_maxLen _ _ _ _ (by unfold maxLen; omega)⟩)
      clear hN hrl
      go_wp2_with fail
      obtain ⟨WB, hWB⟩ : ∃ WB, Lib.bytesWorld wr 5 rs = WB := ⟨_, rfl⟩
      rw [hWB] at HBB hwB HAT ⊢
      obtain ⟨G, hG⟩ : ∃ G, grownCap wr rs.size 0 5 = G := ⟨_, rfl⟩
      rw [hG] at HCG ⊢
      obtain ⟨ja2, jc2, hj1, hj2⟩ := HST.out.jn.below HBB.out
      have hlr := lastJ_range l 0 (s := 0) (by omega)
      refine (readLine_any w.heap.size l.length (lastJ 0 0 l) _ wr.heap.size G rs.data.toList WB hj1 HAT.out (by show rs.size ≤ _; omega) HCG.out.1 HCG.out.2 (by omega) hlr (HE.out.next (bt0 HST.out.bel HBB.out (Nat.le_refl _)))).mono ?_
      rintro e w4 ⟨rk, ri, rfl, hrk, hb4⟩
      have HB4 := Lib.hid (bt0 (bt0 HST.out.bel HBB.out (Nat.le_refl _)) hb4 (Nat.le_refl _))
      have HBR4 := Lib.hid (HBB.out.trans (hb4.mono (by omega)))
      have hw4 := hb4.size
      clear hcv hcj hfj hrs hWB hG hb4 hj1 hj2
      cases hrd : readJ l.length (lastJ 0 0 l) rs.data.toList with
      | none =>
        have HN2 := Lib.hid hrd
        simp only [Option.isSome]
        clear hrd hrk
        go_wp2_with fail
        go_ret2
        refine ⟨a, c, l, ?_, rfl, HST.out.ok, HST.out.len, HST.out.got, HST.out.fit, HST.out.own.grown ?_, HST.out.jn.below ?_, ?_⟩
        · have h1 := HST.out.got
          rw [HN.out, ← HRL.out, recJ_none HN2.out, List.append_nil] at h1
          exact h1.symm
        · exact HBR4.out.trans ((ba1 w4 _).mono (by omega))
        · exact HBR4.out.trans ((ba1 w4 _).mono (by omega))
        · exact HB4.out.trans ((ba1 w4 _).mono (by omega))
      | some r =>
        obtain ⟨rfl, rfl⟩ := hrk r hrd
        have HN2 := Lib.hid hrd
        have hw4b : w.heap.size < w4.heap.size := by omega
        have HBX := Lib.hid (heap2 w4 (.cells #[.int .i64 r.k, .int .i64 r.n] 35 (0, 0)) (.cells #[.int .i64 r.k, .int .i64 r.n] 35 (0, 0)))
        have hb5 := ba2 w4 (.cells #[.int .i64 r.k, .int .i64 r.n] 35 (0, 0)) (.cells #[.int .i64 r.k, .int .i64 r.n] 35 (0, 0))
        have HBR5 := Lib.hid (HBR4.out.trans (hb5.mono (by omega)))
        have HB5 := Lib.hid (HB4.out.trans (hb5.mono (by omega)))
        simp only [Option.isSome]
        clear hrd hrk hb5
        go_wp2_with (at_builtin; refine wpList_append_rc (o := _) (s := .tmp 29) (x := .tmp 31) rfl rfl (w.heap.size + 1) (.slice a l.length c) l r rfl (HST.out.own.grown HBR5.out) (w4.heap.size + 1) rfl HBX.out.2 (by omega) (by simp; omega) ?h9)
        case h9 =>
        intro a6 c6 l6 w6 he6 ho6 hg6 hb6
        have hown4 := HST.out.own.grown HBR5.out
        have hb4n : some w4.heap.size ≠ (Value.slice a l.length c).ownBlock := fun e => by
          have := Enc.Own.hi HST.out.own _ e.symm
          omega
        have hbx6 := (hg6.block w4.heap.size (by simp; omega) (fun e => hb4n e)).trans HBX.out.1
        have hc6 := (heap_cellR hbx6).1
        have HJ6 := Lib.hid ((HST.out.jn.below HBR5.out).other hown4 (Nat.lt_succ_self _) hg6)
        have HB6 := Lib.hid (HB5.out.trans (hb6.mono (Nat.le_succ _)))
        have HO6 := Lib.hid ho6
        have HL6 := Lib.hid he6
        have hz6 : w4.heap.size < w6.heap.size := blkLt hbx6
        clear hown4 hb4n hg6 hb6 ho6 he6 hbx6
        go_wp2_with fail
        have hlx : (textJ 0 0 l).length ≤ 100000 := by have := HST.out.fit; omega
        refine (add_any w.heap.size l.length (lastJ 0 0 l) (textJ 0 0 l) r _ HJ6.out ((readJ_iff _ _ _ _).1 HN2.out).1 (by omega) hlr hlx (HE.out.next HB6.out).tab).mono ?_
        rintro e w7 ⟨rfl, hj7, hg7⟩
        have HJ7 := Lib.hid hj7
        have HO7 := Lib.hid (HO6.out.src (Nat.lt_succ_self _) hg7)
        have HB7 := Lib.hid (HB6.out.trans (below_of_grownBy hg7 (by omega) (fun k e => by cases e; exact Nat.le_refl _)))
        clear hj7 hg7 hc6 hlx
        go_wp2_with fail
        refine ⟨⟨l6, a6, c6, rfl, ?_⟩, ?_⟩
        · have e6 := HL6.out
          have ho7 := HO7.out
          subst e6
          exact HST.out.next hlt (by rw [HN.out, ← HRL.out]; exact HN2.out) ho7 HJ7.out HB7.out
        · have := congrArg List.length HL6.out
          simp at this
          show 300 - l6.length < 300 - l.length
          omega
    · have hl300 : l.length = 300 := by have := hst.len; omega
      clear hst
      go_wp2_with fail
      go_ret2
      exact ⟨a, c, l, by have := HST.out.got; rw [hl300, Nat.sub_self, recJ, List.append_nil] at this; exact this.symm, rfl, HST.out⟩

end Go.Proofs.YtkmfgchbfchdbaaDoor
