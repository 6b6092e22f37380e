import Derived.Test.YtlcglclojlffgaaGreatDoorK2
import Derived.Test.YtlcglclojlffgaaGreatDoorK0
import Derived.Lib.SplitLaws
import Derived.Lib.ParseIntBCases
import Derived.Lib.ItoaLen
import Derived.Conc.MuLone
import Derived.Tactics
import Derived.Tactics2
import Derived.Defers
import Derived.Laws.Pointers
import Derived.Laws.LoneSync
import Derived.RegionTactic
import Derived.RegionCalls
import Derived.ChangeAlike
import Derived.Test.YtlcglclojlffgaaGreatDoorK1
namespace Go.Proofs.YtlcglclojlffgaaGreatDoor
open Go.RowKit

/-- the table when the choices from k on are known -/
def tabF (s : List UInt8) (k : Nat) (i : Nat) : Ch := if i < k then chZ else hdC (s.drop i)
/-- what stands while choices are made -/
structure ChoW (w0 wr : World) (g wb fb : Nat) (s : List UInt8) (k : Nat) (f : Nat → Nat) : Prop where
  tab : TabAt wr g (s.length + 1) (tabF s k)
  wid : WidAt wr wb
  rch : RchAt wr fb f
  gw : g < wb
  wf : wb < fb
  base : w0.heap.size ≤ g
  below : Below w0.heap.size w0 wr
theorem ChoW.grown {w0 wr w' : World} {g wb fb : Nat} {s : List UInt8} {k : Nat} {f : Nat → Nat} (h : ChoW w0 wr g wb fb s k f) (hb : Below wr.heap.size wr w') : ChoW w0 w' g wb fb s k f :=
  ⟨h.tab.below hb, h.wid.below hb, h.rch.below hb, h.gw, h.wf, h.base, bt0 h.below hb (Nat.le_refl _)⟩
theorem ChoW.other {w0 wr w' : World} {g wb fb B : Nat} {s : List UInt8} {k : Nat} {f : Nat → Nat} (h : ChoW w0 wr g wb fb s k f) (hg : wr.grownBy w' (some B)) (hB : fb < B) : ChoW w0 w' g wb fb s k f := by
  have h1 := h.gw
  have h2 := h.wf
  have h3 := h.base
  obtain ⟨C, t, k1, k2⟩ := h.wid
  have hk : ∀ b, b < B → b < wr.heap.size → w'.heap[b]? = wr.heap[b]? := fun b hb hl => hg.block b hl (fun e => by cases e; omega)
  refine ⟨h.tab.kept (hk _ (by omega) h.tab.lt), ⟨C, t, (hk _ (by omega) (blkLt k1)).trans k1, k2⟩, h.rch.kept (hk _ hB h.rch.lt), h1, h2, h3, h.below.trans (below_of_grownBy hg (h.below.size) (fun j e => by cases e; omega))⟩
theorem ChoW.took {w0 wr w' : World} {g wb fb : Nat} {s : List UInt8} {k : Nat} {f f' : Nat → Nat} (h : ChoW w0 wr g wb fb s k f) (hg : wr.grownBy w' (some fb)) (hr : RchAt w' fb f') : ChoW w0 w' g wb fb s k f' := by
  have h1 := h.gw
  have h2 := h.wf
  have h3 := h.base
  obtain ⟨C, t, k1, k2⟩ := h.wid
  have hk : ∀ b, b < fb → b < wr.heap.size → w'.heap[b]? = wr.heap[b]? := fun b hb hl => hg.block b hl (fun e => by cases e; omega)
  exact ⟨h.tab.kept (hk _ (by omega) h.tab.lt), ⟨C, t, (hk _ (by omega) (blkLt k1)).trans k1, k2⟩, hr, h1, h2, h3, h.below.trans (below_of_grownBy hg (h.below.size) (fun j e => by cases e; omega))⟩
theorem ChoW.like {w0 wr : World} {g wb fb : Nat} {s : List UInt8} {k : Nat} {f f' : Nat → Nat} (h : ChoW w0 wr g wb fb s k f) (e : ∀ i, 1 ≤ i → i ≤ 4 → f' i = f i) : ChoW w0 wr g wb fb s k f' :=
  ⟨h.tab, h.wid, h.rch.like e, h.gw, h.wf, h.base, h.below⟩
theorem BxC.kept {w w' : World} {g : Nat} {x : Ch} (h : BxC w g x) (hk : w'.heap[g]? = w.heap[g]?) : BxC w' g x := TabAt.kept h hk
theorem BxC.below {w w' : World} {g : Nat} {x : Ch} (h : BxC w g x) (hb : Below w.heap.size w w') : BxC w' g x := TabAt.below h hb
theorem BxC.lt {w : World} {g : Nat} {x : Ch} (h : BxC w g x) : g < w.heap.size := TabAt.lt h
theorem runL_take (f : Nat → Nat) (c : UInt8) (l : List UInt8) (h : ∀ m, f m = runL m l) (m : Nat) : runL m (c :: l) = tkN f c m := by rw [runL, tkN, h]
set_option maxRecDepth 100000 in
set_option maxHeartbeats 4000000 in
theorem choices_any (s : ByteArray) (w : World) (hs : s.size ≤ 400) :
    Calls Tryz.prog 207 #[.string s] w fun e w' => e = .returned (.slice (some ⟨w.heap.size, 0, none⟩) (s.size + 1) (s.size + 1)) ∧ TabAt w' w.heap.size (s.size + 1) (tabF s.data.toList 0) ∧ Below w.heap.size w w' := by
  have hmk := make_ch (s.size + 1) (by omega)
  push_cast at hmk
  go_enter Tryz.func207, Tryz.ntmps207
  go_wp2_with fail
  refine (widths_any _).mono ?_
  rintro e w2 ⟨rfl, hw2, hb2⟩
  have HT2 := Lib.hid ((TabAt.new w (s.size + 1)).below hb2)
  have HB2 := Lib.hid (bt1 hb2)
  have HW2 := Lib.hid (show WidAt w2 (w.heap.size + 1) by simpa using hw2)
  clear hw2 hb2 hmk
  go_wp2_with fail
  obtain ⟨S, hS⟩ : ∃ S, S = s.data.toList := ⟨_, rfl⟩
  have hSl : S.length = s.size := by rw [hS]; rfl
  have HS := Lib.hid hS
  have HSL := Lib.hid hSl
  have HC0 : Hid (ChoW w (w2.alloc (.cells #[.int .i64 0, .int .i64 0, .int .i64 0, .int .i64 0, .int .i64 0] 278 (0, 0))) w.heap.size (w.heap.size + 1) w2.heap.size S S.length (fun m => runL m (S.drop S.length))) := Lib.hid (by
    refine ⟨?_, HW2.out.below (ba1 _ _), ?_, by omega, ?_, Nat.le_refl _, bt0 HB2.out (ba1 _ _) (Nat.le_refl _)⟩
    · rw [hSl]
      exact (HT2.out.below (ba1 _ _)).like (fun i hi => by
        unfold tabF
        by_cases h : i < s.size
        · rw [if_pos (by omega)]
        · rw [if_neg (by omega), List.drop_eq_nil_of_le (by omega)]; rfl)
    · refine ⟨_, _, push_at _ _, rfl, fun i h1 h4 => ?_⟩
      obtain rfl | rfl | rfl | rfl : i = 1 ∨ i = 2 ∨ i = 3 ∨ i = 4 := by omega
      all_goals (rw [List.drop_eq_nil_of_le (Nat.le_refl _)]; rfl)
    · obtain ⟨C, t, k1, k2⟩ := HW2.out
      simpa using blkLt k1)
  clear hS hSl
  go_loopw [6, 7, 8, 9, 10, 11] (fun a _ _ _ _ _ wr => ∃ k : Nat, k ≤ s.size ∧ a = .int .i64 ((k : Int) - 1) ∧ ChoW w wr w.heap.size (w.heap.size + 1) w2.heap.size S k (fun m => runL m (S.drop k))) (fun a _ _ _ _ _ _ => (intOf a + 1).toNat)
  case atStart => exact ⟨s.size, Nat.le_refl _, rfl, by rw [← HSL.out]; exact HC0.out⟩
  case round =>
    obtain ⟨k, hk, rfl, hc⟩ := hrel
    have HC := Lib.hid hc
    clear hc
    rcases k with - | k
    · have hdec : decide ((0 : Int) ≤ ((0 : Nat) : Int) - 1) = false := by decide
      go_wp2_with fail
      go_ret
      exact ⟨rfl, by rw [← HS.out, ← HSL.out]; exact HC.out.tab, HC.out.below⟩
    · have hdec : decide ((0 : Int) ≤ ((k + 1 : Nat) : Int) - 1) = true := by simp
      have hki : ((k + 1 : Nat) : Int) - 1 = (k : Int) := by omega
      rw [hki] at hdec ⊢
      have hkn : k < s.size := by omega
      have hki2 : (k : Int) < (s.size : Int) := by omega
      obtain ⟨c, hcb⟩ : ∃ c, c = s[k] := ⟨_, rfl⟩
      have HCB := Lib.hid (show S[k]? = some c by rw [HS.out, hcb]; exact List.getElem?_eq_getElem (by simpa using hkn))
      have hfl := fun m => (runL_le m (S.drop (k + 1))).2
      have HFL := Lib.hid hfl
      clear hfl
      go_wp2_with fail
      refine (take_any w2.heap.size _ HFL.out c _ (by rw [hcb]) _ (HC.out.rch.below (ba1 _ _))).mono ?_
      rintro e w3 ⟨rfl, hr3, hg3⟩
      obtain ⟨cl, hcl⟩ : ∃ cl, cl = S.drop k := ⟨_, rfl⟩
      obtain ⟨l, hl⟩ : ∃ l, l = S.drop (k + 1) := ⟨_, rfl⟩
      have HCL := Lib.hid (show cl = c :: l by
        rw [hcl, hl]
        have h := HCB.out
        obtain ⟨hk', e⟩ := List.getElem?_eq_some_iff.1 h
        rw [List.drop_eq_getElem_cons hk', e])
      have hB0 : w2.heap.size < wr.heap.size := HC.out.rch.lt
      have hBx : BxC w3 wr.heap.size chZ := (BxC.new wr chZ 265).kept (hg3.block _ (by simp) (fun e => by have := Option.some.inj e; omega))
      have HX0 := Lib.hid hBx
      have HC3 := Lib.hid (show ChoW w w3 w.heap.size (w.heap.size + 1) w2.heap.size S (k + 1) (fun m => runL m cl) from
        ((HC.out.grown (ba1 _ _)).took hg3 hr3).like (fun i _ _ => by rw [HCL.out]; exact runL_take _ c l (fun m => by rw [hl]) i))
      have hcll : cl.length = s.size - k := by rw [hcl, List.length_drop, HSL.out]
      have HCLe := Lib.hid hcl
      have HLe := Lib.hid hl
      have hB : w2.heap.size < wr.heap.size := hB0
      obtain ⟨B, hBe⟩ : ∃ B, B = wr.heap.size := ⟨_, rfl⟩
      rw [← hBe] at HX0 hB
      clear hr3 hg3 hBx hcl hl hB0 HFL hcb
      go_wp2_with fail
      try rw [← hBe]
      clear hBe
      go_loopw [8, 9, 10, 11] (fun i _ _ _ wx => ∃ m : Nat, 1 ≤ m ∧ m ≤ 5 ∧ i = .int .i64 m ∧ ChoW w wx w.heap.size (w.heap.size + 1) w2.heap.size S (k + 1) (fun m => runL m cl) ∧ BxC wx B (modC cl (tabC l) (m - 1))) (fun i _ _ _ _ => 5 - (intOf i).toNat)
      case atStart => exact ⟨1, by omega, by omega, rfl, HC3.out, HX0.out⟩
      case round =>
        obtain ⟨m, hm1, hm5, rfl, hc, hx⟩ := hrel
        have HCm := Lib.hid hc
        have HXm := Lib.hid hx
        clear hc hx
        by_cases hlt : m ≤ 4
        · have hdec : decide ((m : Int) ≤ 4) = true := by simp; omega
          go_wp2_with fail
          go_loopw [9, 10, 11] (fun i _ _ wx => ∃ n : Nat, 1 ≤ n ∧ n ≤ runL m cl + 1 ∧ i = .int .i64 n ∧ ChoW w wx w.heap.size (w.heap.size + 1) w2.heap.size S (k + 1) (fun m => runL m cl) ∧ BxC wx B (tryC (tabC l) m (n - 1) (modC cl (tabC l) (m - 1)))) (fun i _ _ _ => runL m cl + 1 - (intOf i).toNat)
          case atStart => exact ⟨1, by omega, by omega, rfl, HCm.out, HXm.out⟩
          case round =>
            obtain ⟨n, hn1, hnR, rfl, hc, hx⟩ := hrel
            have HCn := Lib.hid hc
            have HXn := Lib.hid hx
            obtain ⟨hR1, hR2⟩ := runL_le m cl
            obtain ⟨hcf, -⟩ := hc.rch.cell hm1 hlt
            have hlf := hc.rch.lt
            obtain ⟨R, hRe⟩ : ∃ R, R = runL m cl := ⟨_, rfl⟩
            rw [← hRe] at hnR hR1 hR2 hcf
            have HRe := Lib.hid hRe
            clear hc hx hRe
            by_cases hln : n ≤ R
            · have hdec : decide ((n : Int) ≤ (R : Int)) = true := by simp; omega
              obtain ⟨x1, x2, x3, x4, -⟩ := HCn.out.tab.cell (i := k + n) (by rw [HSL.out]; omega)
              have htf : tabF S (k + 1) (k + n) = hdC (S.drop (k + n)) := by unfold tabF; rw [if_neg (by omega)]
              obtain ⟨⟨rl, rc, rt, rm⟩, hre⟩ : ∃ x : Ch, x = hdC (S.drop (k + n)) := ⟨_, rfl⟩
              rw [htf, ← hre] at x1 x2 x3 x4
              dsimp only at x1 x2 x3 x4
              have HRE := Lib.hid hre
              have hlt2 := HCn.out.tab.lt
              obtain ⟨q, hq⟩ : ∃ q, q = k + n := ⟨_, rfl⟩
              have hqi : (k : Int) + (n : Int) = (q : Int) := by omega
              have hqi2 : (q : Int) < (s.size : Int) + 1 := by omega
              rw [← hq] at x1 x2 x3 x4
              have HQ := Lib.hid hq
              clear htf hre hq
              go_wp2_with fail
              obtain ⟨rb, hrb⟩ : ∃ rb, rb = wr.heap.size := ⟨_, rfl⟩
              obtain ⟨w6, hw6⟩ : ∃ w6, w6 = wr.alloc (.cells #[.int .i64 rl, .int .i64 rc, .int .i64 rt, .int .i64 rm] 265 (0, 0)) := ⟨_, rfl⟩
              have HC6 := Lib.hid (show ChoW w w6 w.heap.size (w.heap.size + 1) w2.heap.size S (k + 1) (fun m => runL m cl) by rw [hw6]; exact HCn.out.grown (ba1 _ _))
              have HX6 := Lib.hid (show BxC w6 B (tryC (tabC l) m (n - 1) (modC cl (tabC l) (m - 1))) by rw [hw6]; exact HXn.out.below (ba1 _ _))
              have hr0 : w6.cell? ⟨rb, 0, none⟩ = some (.int .i64 rl) := by rw [hw6, hrb, (heap_cellR (push_at _ _)).1]; rfl
              have hr1 : w6.cell? ⟨rb, 1, none⟩ = some (.int .i64 rc) := by rw [hw6, hrb, (heap_cellR (push_at _ _)).1]; rfl
              have hs6 : w6.heap.size = rb + 1 := by rw [hw6, hrb]; simp
              have hBr : B < rb := by rw [hrb]; exact HXn.out.lt
              obtain ⟨hcw, -⟩ := HC6.out.wid.cell hm1 hlt hn1 (show n ≤ 255 by omega)
              have hVb := segW_le m n hn1
              obtain ⟨V, hV⟩ : ∃ V, V = segW m n := ⟨_, rfl⟩
              rw [← hV] at hcw hVb
              have HV := Lib.hid hV
              have hbd := hdC_bd _ (S.drop (k + n)) (Nat.le_refl _)
              rw [← HRE.out] at hbd
              obtain ⟨hb1, hb2, hb3, hb4⟩ := hbd
              rw [List.length_drop, HSL.out] at hb2 hb4
              dsimp only at hb1 hb2 hb3 hb4
              have hbl : 0 ≤ rl ∧ rl ≤ 7600 := by omega
              have hbc : 0 ≤ rc ∧ rc ≤ 400 := by omega
              try rw [← hw6]
              try rw [← hrb]
              clear hw6 hrb hV hb1 hb2 hb3 hb4 x1 x2 x3 x4 hcf
              refine wp_region_rt (Keep := KB) [51, 52, 53, 54, 55, 56, 57, 58, 59, 60, 61, 62, 63, 64, 65, 66, 11] (fun us => _)
                [spE (.pointer (some ⟨w.heap.size + 1, 0, none⟩)),
                 spE (.int .i64 (m : Int)),
                 spE (.int .i64 (n : Int)),
                 spE (.pointer (some ⟨w.heap.size + 1, 0, none⟩)),
                 spE (.pointer (some ⟨w.heap.size + 1, m * 256, none⟩)),
                 spE (.pointer (some ⟨w.heap.size + 1, m * 256 + n, none⟩)),
                 spE (.int .i64 (V : Int)),
                 spE (.pointer (some ⟨rb, 0, none⟩)),
                 spE (.int .i64 rl),
                 spE (.int .i64 ((V : Int) + rl)),
                 spE (.pointer (some ⟨rb, 1, none⟩)),
                 spE (.int .i64 rc),
                 spE (.int .i64 (rc + 1)),
                 spE (.int .i64 (n : Int)),
                 spE (.int .i64 (m : Int)),
                 spE (.agg #[.int .i64 ((V : Int) + rl), .int .i64 (rc + 1), .int .i64 (n : Int), .int .i64 (m : Int)]),
                 spBox (rb + 1) #[.int .i64 0, .int .i64 0, .int .i64 0, .int .i64 0] 265]
                (StX w6) (by kernel_rfl) (by kernel_rfl) (Nat.le_of_ble_eq_true rfl) (fun us => by simp [over, List.mapIdx_cons]; exact rfl) (stX0 _) kbr ?_ ?_
              · refine ⟨?_, ?_, ?_, ?_, ?_, ?_, ?_, ?_, ?_, ?_, ?_, ?_, ?_, ?_, ?_, ?_, ?_, trivial⟩
                all_goals (intro us wx hst hd; rw [if_pos (by kernel_rfl)]; dsimp only)
                · clear hd
                  go_simp
                  exact kb_same hst rfl
                · clear hd
                  go_simp
                  exact kb_same hst rfl
                · clear hd
                  go_simp
                  exact kb_same hst rfl
                · have d51 : us 51 = (.pointer (some ⟨w.heap.size + 1, 0, none⟩)) := hd ⟨0, .data⟩ (by simp) rfl
                  clear hd
                  go_simp
                  exact kb_same hst rfl
                · have d54 : us 54 = (.pointer (some ⟨w.heap.size + 1, 0, none⟩)) := hd ⟨3, .data⟩ (by simp) rfl
                  have d52 : us 52 = (.int .i64 (m : Int)) := hd ⟨1, .data⟩ (by simp) rfl
                  clear hd
                  have hi5 : (m : Int) < 5 := by omega
                  go_simp
                  exact kb_same hst rfl
                · have d55 : us 55 = (.pointer (some ⟨w.heap.size + 1, m * 256, none⟩)) := hd ⟨4, .data⟩ (by simp) rfl
                  have d53 : us 53 = (.int .i64 (n : Int)) := hd ⟨2, .data⟩ (by simp) rfl
                  clear hd
                  have hi5 : (n : Int) < 256 := by omega
                  go_simp
                  exact kb_same hst rfl
                · have d56 : us 56 = (.pointer (some ⟨w.heap.size + 1, m * 256 + n, none⟩)) := hd ⟨5, .data⟩ (by simp) rfl
                  clear hd
                  have hW := below_cell hst hcw
                  go_simp
                  exact kb_same hst rfl
                · clear hd
                  go_simp
                  exact kb_same hst rfl
                · have d58 : us 58 = (.pointer (some ⟨rb, 0, none⟩)) := hd ⟨7, .data⟩ (by simp) rfl
                  clear hd
                  have hW := below_cell hst hr0
                  go_simp
                  exact kb_same hst rfl
                · have d57 : us 57 = (.int .i64 (V : Int)) := hd ⟨6, .data⟩ (by simp) rfl
                  have d59 : us 59 = (.int .i64 rl) := hd ⟨8, .data⟩ (by simp) rfl
                  clear hd
                  have hw : IntKind.i64.wrap ((V : Int) + rl) = (V : Int) + rl := by rw [IntKind.wrap_i64]; omega
                  go_simp
                  exact kb_same hst rfl
                · clear hd
                  go_simp
                  exact kb_same hst rfl
                · have d61 : us 61 = (.pointer (some ⟨rb, 1, none⟩)) := hd ⟨10, .data⟩ (by simp) rfl
                  clear hd
                  have hW := below_cell hst hr1
                  go_simp
                  exact kb_same hst rfl
                · have d62 : us 62 = (.int .i64 rc) := hd ⟨11, .data⟩ (by simp) rfl
                  clear hd
                  have hw : IntKind.i64.wrap (rc + 1) = rc + 1 := by rw [IntKind.wrap_i64]; omega
                  go_simp
                  exact kb_same hst rfl
                · clear hd
                  go_simp
                  exact kb_same hst rfl
                · clear hd
                  go_simp
                  exact kb_same hst rfl
                · have d60 : us 60 = (.int .i64 ((V : Int) + rl)) := hd ⟨9, .data⟩ (by simp) rfl
                  have d63 : us 63 = (.int .i64 (rc + 1)) := hd ⟨12, .data⟩ (by simp) rfl
                  have d64 : us 64 = (.int .i64 (n : Int)) := hd ⟨13, .data⟩ (by simp) rfl
                  have d65 : us 65 = (.int .i64 (m : Int)) := hd ⟨14, .data⟩ (by simp) rfl
                  clear hd
                  go_simp
                  exact kb_same hst rfl
                · clear hd
                  go_simp
                  exact kb_new hst (by omega)
              · intro us wx hst hd
                have d11 := hd 16 (by simp)
                have d66 : us 66 = (.agg #[.int .i64 ((V : Int) + rl), .int .i64 (rc + 1), .int .i64 (n : Int), .int .i64 (m : Int)]) := hd 15 (by simp)
                clear hd
                simp only [List.drop, List.length]
                rw [d66]
                obtain ⟨xb, hxb, hxb1, hxg⟩ := d11
                rw [hxb]
                have HC7 := Lib.hid (HC6.out.grown hst)
                have HB7 := Lib.hid (HX6.out.below hst)
                have HX7 : Hid (BxC wx xb chZ) := Lib.hid ⟨_, _, hxg, rfl, fun i hi => by
                  obtain rfl : i = 0 := by omega
                  exact ⟨rfl, rfl, rfl, rfl⟩⟩
                obtain ⟨z1, z2, z3, z4, z5⟩ := HX7.out.cells
                have hlx := HX7.out.lt
                have hlB := HB7.out.lt
                obtain ⟨⟨tl, tc, tt, tm⟩, hte⟩ : ∃ x : Ch, x = tryC (tabC l) m (n - 1) (modC cl (tabC l) (m - 1)) := ⟨_, rfl⟩
                rw [← hte] at HB7
                obtain ⟨v1, v2, v3, v4, v5⟩ := HB7.out.cells
                have HTE := Lib.hid hte
                have hne : B ≠ xb := by omega
                have hne' : xb ≠ B := by omega
                clear hxg hxb d66 hte hr0 hr1 hcw
                have HCD := Lib.hid (show candC (tabC l) m n = ⟨(V : Int) + rl, rc + 1, n, m⟩ by
                  have hll : l.length = s.size - (k + 1) := by rw [HLe.out, List.length_drop, HSL.out]
                  have e : (tabC l).getD (n - 1) chZ = ⟨rl, rc, rt, rm⟩ := by
                    rw [List.getD_eq_getElem?_getD, tabC_at l (n - 1) (by omega), HRE.out, HLe.out, List.drop_drop, show k + 1 + (n - 1) = k + n by omega]
                    rfl
                  rw [candC, e, ← HV.out])
                have HTN := Lib.hid (show tryC (tabC l) m n (modC cl (tabC l) (m - 1)) = betC ⟨tl, tc, tt, tm⟩ ⟨(V : Int) + rl, rc + 1, n, m⟩ by
                  obtain ⟨j, rfl⟩ : ∃ j, n = j + 1 := ⟨n - 1, by omega⟩
                  rw [tryC, HCD.out, HTE.out]; rfl)
                have HG1 := Lib.hid (four_grown wx xb 0 1 2 3 (.int .i64 ((V : Int) + rl)) (.int .i64 (rc + 1)) (.int .i64 (n : Int)) (.int .i64 (m : Int)))
                have HC8 := Lib.hid (HC7.out.other HG1.out (by omega))
                have HB8 := Lib.hid (HB7.out.kept (HG1.out.block B hlB (fun e => by have := Option.some.inj e; omega)))
                have HCase := Lib.hid (show ∀ wy, ChoW w wy w.heap.size (w.heap.size + 1) w2.heap.size S (k + 1) (fun m => runL m cl) → BxC wy B ⟨tl, tc, tt, tm⟩ → betC ⟨tl, tc, tt, tm⟩ ⟨(V : Int) + rl, rc + 1, n, m⟩ = ⟨(V : Int) + rl, rc + 1, n, m⟩ →
                    (∃ n_1 : Nat, 1 ≤ n_1 ∧ n_1 ≤ runL m cl + 1 ∧ Value.int .i64 ((n : Int) + 1) = .int .i64 n_1 ∧ ChoW w ((((wy.setCell ⟨B, 0, none⟩ (.int .i64 ((V : Int) + rl))).setCell ⟨B, 1, none⟩ (.int .i64 (rc + 1))).setCell ⟨B, 2, none⟩ (.int .i64 (n : Int))).setCell ⟨B, 3, none⟩ (.int .i64 (m : Int))) w.heap.size (w.heap.size + 1) w2.heap.size S (k + 1) (fun m => runL m cl) ∧
                      BxC ((((wy.setCell ⟨B, 0, none⟩ (.int .i64 ((V : Int) + rl))).setCell ⟨B, 1, none⟩ (.int .i64 (rc + 1))).setCell ⟨B, 2, none⟩ (.int .i64 (n : Int))).setCell ⟨B, 3, none⟩ (.int .i64 (m : Int))) B (tryC (tabC l) m (n_1 - 1) (modC cl (tabC l) (m - 1)))) from
                  fun wy hcy hby hbet => ⟨n + 1, by omega, by rw [← HRe.out]; omega, by push_cast; rfl, hcy.other (four_grown wy B 0 1 2 3 _ _ _ _) (by omega), by
                    rw [Nat.add_sub_cancel, HTN.out, hbet]
                    exact hby.set ⟨(V : Int) + rl, rc + 1, n, m⟩⟩)
                by_cases h0 : tc = 0
                · subst h0
                  go_wp2_with fail
                  exact ⟨HCase.out _ HC8.out HB8.out (by rw [betC, if_pos (Or.inl rfl)]), by rw [← HRe.out]; simp [intOf]; omega⟩
                · have h0' : (tc == 0) = false := by rw [beq_eq_false_iff_ne]; exact h0
                  have H0 := Lib.hid h0
                  clear h0
                  go_wp2_with fail
                  refine (better_any ⟨(V : Int) + rl, rc + 1, n, m⟩ ⟨tl, tc, tt, tm⟩ _).mono ?_
                  rintro e w9 ⟨rfl, hb9⟩
                  have HC9 := Lib.hid (HC8.out.grown hb9)
                  have HB9 := Lib.hid (HB8.out.below hb9)
                  have HX9 := Lib.hid ((HX7.out.set ⟨(V : Int) + rl, rc + 1, n, m⟩).below hb9)
                  obtain ⟨z1, z2, z3, z4, z5⟩ := HX9.out.cells
                  obtain ⟨v1, v2, v3, v4, v5⟩ := HB9.out.cells
                  have hl9 := HX9.out.lt
                  have hl8 := HB9.out.lt
                  clear hb9
                  rcases Bool.eq_false_or_eq_true (chB ⟨(V : Int) + rl, rc + 1, n, m⟩ ⟨tl, tc, tt, tm⟩) with hb | hb
                  · rw [hb]
                    have HBe := Lib.hid hb
                    clear hb
                    go_wp2_with fail
                    exact ⟨HCase.out _ HC9.out HB9.out (by rw [betC, if_pos (Or.inr HBe.out)]), by rw [← HRe.out]; simp [intOf]; omega⟩
                  · rw [hb]
                    have HBe := Lib.hid hb
                    clear hb
                    go_wp2_with fail
                    refine ⟨⟨n + 1, by omega, by rw [← HRe.out]; omega, by push_cast; rfl, HC9.out, ?_⟩, by rw [← HRe.out]; simp [intOf]; omega⟩
                    rw [Nat.add_sub_cancel, HTN.out, betC, if_neg (by rw [HBe.out]; rintro (h | h); exact H0.out h; cases h)]
                    exact HB9.out
            · have hdec : decide ((n : Int) ≤ (R : Int)) = false := by simp; omega
              obtain rfl : n = R + 1 := by omega
              have HMS := Lib.hid (show modC cl (tabC l) m = tryC (tabC l) m R (modC cl (tabC l) (m - 1)) by
                obtain ⟨j, rfl⟩ : ∃ j, m = j + 1 := ⟨m - 1, by omega⟩
                rw [modC, HRe.out]; rfl)
              go_wp2_with fail
              exact ⟨⟨m + 1, by omega, by omega, by go_num, HCn.out, by rw [Nat.add_sub_cancel, HMS.out]; exact HXn.out⟩, by simp [intOf]; omega⟩
        · have hdec : decide ((m : Int) ≤ 4) = false := by simp; omega
          obtain rfl : m = 5 := by omega
          obtain ⟨⟨bl, bc, bt, bm⟩, hbe⟩ : ∃ x : Ch, x = modC cl (tabC l) (5 - 1) := ⟨_, rfl⟩
          rw [← hbe] at HXm
          have HBE := Lib.hid (show hdC (S.drop k) = ⟨bl, bc, bt, bm⟩ by rw [hbe, ← HCLe.out, HCL.out]; rfl)
          obtain ⟨y1, y2, y3, y4, -⟩ := HXm.out.cells
          obtain ⟨x1, x2, x3, x4, x5⟩ := HCm.out.tab.cell (i := k) (by rw [HSL.out]; omega)
          have hki3 : (k : Int) < (s.size : Int) + 1 := by omega
          have hlb := HXm.out.lt
          have hlt2 := HCm.out.tab.lt
          clear hbe
          go_wp2_with fail
          refine ⟨⟨k, by omega, by go_num, ?_⟩, by simp [intOf]⟩
          have hg := four_grown wr w.heap.size (k * 4) (k * 4 + 1) (k * 4 + 2) (k * 4 + 3) (.int .i64 bl) (.int .i64 bc) (.int .i64 bt) (.int .i64 bm)
          have h1 := HCm.out.gw
          have h2 := HCm.out.wf
          obtain ⟨C, t, k1, k2⟩ := HCm.out.wid
          have ht := HCm.out.tab.set (i := k) (by rw [HSL.out]; omega) ⟨bl, bc, bt, bm⟩
          refine ⟨ht.like (fun i hi => ?_), ⟨C, t, (hg.block _ (blkLt k1) (fun e => by have := Option.some.inj e; omega)).trans k1, k2⟩, (HCm.out.rch.kept (hg.block _ HCm.out.rch.lt (fun e => by have := Option.some.inj e; omega))).like (fun i _ _ => by rw [HCLe.out]), h1, h2, Nat.le_refl _, HCm.out.below.trans (below_of_grownBy hg HCm.out.below.size (fun j e => by have := Option.some.inj e; omega))⟩
          unfold tabF
          by_cases e : i = k
          · subst e; rw [if_neg (by omega), if_pos rfl, HBE.out]
          · rw [if_neg e]
            by_cases h : i < k
            · rw [if_pos h, if_pos (by omega)]
            · rw [if_neg h, if_neg (by omega)]

end Go.Proofs.YtlcglclojlffgaaGreatDoor
namespace Go.Proofs.YtlcglclojlffgaaGreatDoor
open Go.RowKit

/-! Rows of things that take k cells each. -/
structure Enc (α : Type) where
  enc : α → List Value
  k : Nat
  t : TypeId
  bytes : Nat
  len : ∀ x, (enc x).length = k
  one : ∀ x, ∀ u ∈ enc x, u.oneCell' = true
  pos : 0 < k
variable {α : Type} {E : Enc α}

/-- the slice v is the call's own and holds the things xs -/
def Enc.Own (E : Enc α) (w : World) (base : Nat) (v : Value) (xs : List α) : Prop := w.ownsRow base E.t E.k v xs.length (xs.flatMap E.enc)
/-- the things xs lie at a -/
def Enc.At (E : Enc α) (w : World) (a : Option Addr) (xs : List α) : Prop := ∀ i x, xs[i]? = some x → ∃ b o, a = some ⟨b, o, none⟩ ∧ ∀ j u, (E.enc x)[j]? = some u → w.cell? ⟨b, o + (i * E.k + j), none⟩ = some u
theorem Enc.At.below {w w' : World} {a : Option Addr} {xs : List α} (h : E.At w a xs) (hb : Below w.heap.size w w') : E.At w' a xs := fun i x hx => by
  obtain ⟨b, o, e, hc⟩ := h i x hx
  exact ⟨b, o, e, fun j u hu => by rw [hb.cell (p := ⟨b, _, none⟩) (lt_of_cell (hc j u hu))]; exact hc j u hu⟩
theorem Enc.At.nil {w : World} {a : Option Addr} : E.At w a [] := fun i x hx => by simp at hx
theorem Enc.flat (E : Enc α) : ∀ (xs : List α) (i : Nat) (x : α), xs[i]? = some x → ∀ j u, (E.enc x)[j]? = some u → (xs.flatMap E.enc)[i * E.k + j]? = some u
  | [], i, x, h, _, _, _ => by simp at h
  | y :: xs, 0, x, h, j, u, hu => by
    simp at h
    subst h
    rw [List.flatMap_cons, Nat.zero_mul, Nat.zero_add, List.getElem?_append_left (List.getElem?_eq_some_iff.1 hu).1, hu]
  | y :: xs, i + 1, x, h, j, u, hu => by
    have ih := E.flat xs i x (by simpa using h) j u hu
    have hl := E.len y
    have e : (i + 1) * E.k = i * E.k + E.k := Nat.succ_mul i E.k
    rw [List.flatMap_cons, List.getElem?_append_right (by omega), ← ih]
    congr 1
    omega
theorem Enc.flat_len (E : Enc α) : ∀ xs : List α, (xs.flatMap E.enc).length = xs.length * E.k
  | [] => by simp
  | x :: xs => by rw [List.flatMap_cons, List.length_append, E.flat_len xs, E.len, List.length_cons, Nat.succ_mul]; omega
theorem Enc.Own.at {w : World} {base : Nat} {a : Option Addr} {n c : Nat} {xs : List α} (h : E.Own w base (.slice a n c) xs) : E.At w a xs := by
  intro i x hx
  have hi : i < xs.length := (List.getElem?_eq_some_iff.1 hx).1
  rcases h.2 with ⟨h1, h0⟩ | ⟨g, cap, cur, h1, hb, hg, q1, q2, q3, q4⟩
  · omega
  · simp only [Value.slice.injEq] at h1
    obtain ⟨rfl, rfl, rfl⟩ := h1
    refine ⟨g, 0, rfl, fun j u hu => ?_⟩
    have hj : j < E.k := by rw [← E.len x]; exact (List.getElem?_eq_some_iff.1 hu).1
    have hlt : i * E.k + j < xs.length * E.k := by
      have := Nat.mul_le_mul_right E.k (show i + 1 ≤ xs.length from hi)
      rw [Nat.succ_mul] at this; omega
    rw [Nat.zero_add, World.ownsRow.cellAt h (i * E.k + j) hlt]
    exact E.flat xs i x hx j u hu
theorem Enc.Own.read {w : World} {base : Nat} {v : Value} {xs : List α} (h : E.Own w base v xs) : ∃ a c, v = .slice a xs.length c := by
  rcases h.2 with ⟨rfl, h0⟩ | ⟨g, cap, cur, rfl, _⟩
  · exact ⟨none, 0, by rw [h0]⟩
  · exact ⟨_, _, rfl⟩
theorem Enc.Own.lo {w : World} {base : Nat} {v : Value} {xs : List α} (h : E.Own w base v xs) : ∀ k, v.ownBlock = some k → base ≤ k := fun k hk => (World.ownsRow.lt h k hk).1
theorem Enc.Own.hi {w : World} {base : Nat} {v : Value} {xs : List α} (h : E.Own w base v xs) : ∀ k, v.ownBlock = some k → k < w.heap.size := fun k hk => (World.ownsRow.lt h k hk).2
theorem Enc.Own.other {w w' : World} {base : Nat} {v : Value} {xs : List α} {row : Option Nat} (h : E.Own w base v xs) (hg : w.grownBy w' row) (hne : ∀ k, v.ownBlock = some k → row ≠ some k) : E.Own w' base v xs :=
  h.kept hg (by
    cases hv : v.ownBlock with
    | none => exact Or.inl rfl
    | some k => exact Or.inr (fun e => hne k hv e.symm))
theorem Enc.Own.src {w w' : World} {base b : Nat} {v : Value} {xs : List α} (h : E.Own w base v xs) (hb : b < base) (hg : w.grownBy w' (some b)) : E.Own w' base v xs :=
  h.other hg (fun k hk e => by have := h.lo k hk; have := Option.some.inj e; omega)
theorem Enc.Own.grown {w w' : World} {base : Nat} {v : Value} {xs : List α} (h : E.Own w base v xs) (hb : Below w.heap.size w w') : E.Own w' base v xs :=
  h.other (row := none) ⟨hb.os, hb.tape, hb.output, hb.size, fun k hk _ => hb.block k hk⟩ (fun k _ e => by cases e)
theorem Enc.Own.weak {w : World} {base base' : Nat} {v : Value} {xs : List α} (h : E.Own w base v xs) (hb : base' ≤ base) : E.Own w base' v xs := by
  refine ⟨h.1, ?_⟩
  rcases h.2 with h2 | ⟨g, cap, cur, h1, hb', r⟩
  · exact Or.inl h2
  · exact Or.inr ⟨g, cap, cur, h1, by omega, r⟩
theorem Enc.Own.snoc {w : World} {base : Nat} {v : Value} {xs : List α} {x : α} (h : w.ownsRow base E.t E.k v (xs.length + 1) (xs.flatMap E.enc ++ E.enc x)) : E.Own w base v (xs ++ [x]) := by
  unfold Enc.Own
  rw [List.length_append, List.flatMap_append]
  simpa using h
theorem Enc.Own.nil (E : Enc α) (w : World) (base : Nat) : E.Own w base (.slice none 0 0) [] := World.ownsRow_nil _ _ _ _
theorem Enc.Own.new (E : Enc α) (w : World) : E.Own (w.alloc (.cells #[] E.t (0, 0))) w.heap.size (.slice (some ⟨w.heap.size, 0, none⟩) 0 0) [] :=
  World.ownsRow_lit (base := w.heap.size) (size := E.k) w #[] 0 (Nat.le_refl _) (by unfold maxLen; omega) (by simp)
/-- a block with one thing -/
theorem Enc.new_at (E : Enc α) {w : World} {g : Nat} {x : α} {C : Array Value} {t : TypeId} (h : w.heap[g]? = some (.cells C t (0, 0))) (hC : C.toList = E.enc x) : ∀ j u, (E.enc x)[j]? = some u → w.cell? ((⟨g, 0, none⟩ : Addr).add j) = some u := by
  intro j u hu
  rw [Addr.add_lit, Nat.zero_add, (heap_cellR h).1, ← hu, ← hC]
  simp

/-- append of one thing to things of the call's own -/
theorem wpList_append_e (E : Enc α) {P : Program} {ops : Array Oper} {rest : List Oper} {o : Oper} {a : Act} {Q : Exit → Act → World → Prop} {W : World} (hgd : o.guard = none) (s x : Operand) (T : TypeId)
    (ho : o.op = .call { callee := .builtin .append, args := #[s, x], argTypes := #[T, T] }) (hT : P.underlying T = some (.slice E.t)) (i0 : TypeInfo) (z : Value) (hi : P.info? E.t = some i0) (y0 : i0.zero = some z) (y1 : i0.size = E.k) (y2 : i0.bytes = E.bytes) (y3 : z.cells.size = E.k) (hby : E.bytes ≤ 4096)
    (base : Nat) (v : Value) (xs : List α) (y : α) (hs : a.eval s = v) (hown : E.Own W base v xs) (g : Nat) (C : Array Value) (hx : a.eval x = .slice (some ⟨g, 0, none⟩) 1 1)
    (hg : W.heap[g]? = some (.cells C E.t (0, 0))) (hC : C.toList = E.enc y) (hl : xs.length ≤ 1000000000) (hb : base ≤ W.heap.size)
    (h : ∀ a' c' xs' w', xs' = xs ++ [y] → E.Own w' base (.slice a' xs'.length c') xs' → W.grownBy w' v.ownBlock → Below base W w' → wpList P ops Q rest (a.put o.dst (.slice a' xs'.length c')) w') : wpList P ops Q (o :: rest) a W := by
  refine wpList_append_own _ hgd s x T ho base E.t i0 z E.k E.bytes hT hi y0 y1 y2 y3 E.pos v xs.length (xs.flatMap E.enc) hs hown ⟨g, 0, none⟩ 1 1 (E.enc y) hx (by rw [E.len, Nat.one_mul]) (E.new_at hg hC) (E.one y) (by unfold maxLen; omega) ?_ hb ?_
  · calc (xs.length + 1) * E.bytes ≤ (xs.length + 1) * 4096 := Nat.mul_le_mul_left _ hby
      _ ≤ 140737488355328 := by omega
  · intro v' w' h1 h2 _
    have h3 := Enc.Own.snoc h1
    obtain ⟨a', c', rfl⟩ := h3.read
    exact h a' c' _ w' rfl h3 h2 (below_of_grownBy h2 hb (fun k hk => hown.lo k hk))

end Go.Proofs.YtlcglclojlffgaaGreatDoor
namespace Go.Proofs.YtlcglclojlffgaaGreatDoor
open Go.RowKit

set_option maxRecDepth 100000 in
set_option maxHeartbeats 1000000 in
theorem bestLength_any (s : ByteArray) (w : World) (hs : s.size ≤ 400) :
    Calls Tryz.prog 193 #[.string s] w fun e w' => e = .returned (.int .i64 (hdC s.data.toList).l) ∧ Below w.heap.size w w' := by
  go_enter Tryz.func193, Tryz.ntmps193
  go_wp2_with fail
  refine (choices_any s _ hs).mono ?_
  rintro e w1 ⟨rfl, ht, hb⟩
  obtain ⟨x1, -, -, -, -⟩ := ht.cell (i := 0) (by omega)
  rw [Nat.zero_mul] at x1
  have e0 : tabF s.data.toList 0 0 = hdC s.data.toList := by simp [tabF]
  rw [e0] at x1
  obtain ⟨X, hX⟩ : ∃ X, X = (hdC s.data.toList).l := ⟨_, rfl⟩
  rw [← hX] at x1
  have HX := Lib.hid hX
  have hlt := ht.lt
  have HB := Lib.hid hb
  have h0 : (0 : Int) < (s.size : Int) + 1 := by omega
  clear ht hb e0 hX
  go_wp2_with fail
  go_ret
  exact ⟨ret_int HX.out, HB.out⟩
end Go.Proofs.YtlcglclojlffgaaGreatDoor
namespace Go.Proofs.YtlcglclojlffgaaGreatDoor
open Go.RowKit

theorem Enc.At.kept {α : Type} {E : Enc α} {w w' : World} {a : Option Addr} {xs : List α} (h : E.At w a xs) (hk : ∀ b o, a = some ⟨b, o, none⟩ → w'.heap[b]? = w.heap[b]?) : E.At w' a xs := fun i x hx => by
  obtain ⟨b, o, e, hc⟩ := h i x hx
  exact ⟨b, o, e, fun j u hu => by rw [← hc j u hu]; simp [World.cell?, hk b o e]⟩
end Go.Proofs.YtlcglclojlffgaaGreatDoor
namespace Go.Proofs.YtlcglclojlffgaaGreatDoor
open Go.RowKit

theorem OwnI.none (w : World) (base : Nat) : OwnI w base (.slice none 0 0) [] := ⟨by simp, Or.inl ⟨rfl, rfl⟩⟩
set_option maxRecDepth 100000 in
theorem isMessage_any (s : ByteArray) (w : World) (hs : s.size ≤ 1048576) :
    Calls Tryz.prog 181 #[.string s] w fun e w' => e = .returned (.bool (decide (s.size ≤ 400))) ∧ w = w' := by
  have HD := Lib.hid (show decide ((s.size : Int) ≤ 400) = decide (s.size ≤ 400) by rw [decide_eq_decide]; omega)
  go_enter Tryz.func181, Tryz.ntmps181
  go_wp2_with fail
  go_ret
  exact ⟨ret_bool HD.out, rfl⟩
end Go.Proofs.YtlcglclojlffgaaGreatDoor
namespace Go.Proofs.YtlcglclojlffgaaGreatDoor
open Go.RowKit

/-- the least capacity of a message; its code -/
def payN (k : Nat) (S : List UInt8) : Int := (payS k S).getD 0
def payD (k : Nat) (S : List UInt8) : Int := if (payS k S).isSome = true then 0 else 3
theorem payNo {k : Nat} {S : List UInt8} (h : payS k S = none) : payN k S = 0 ∧ payD k S = 3 := by simp [payN, payD, h]
theorem payYes {k : Nat} {S : List UInt8} {n : Int} (h : payS k S = some n) : payN k S = n ∧ payD k S = 0 := by simp [payN, payD, h]
set_option maxRecDepth 100000 in
set_option maxHeartbeats 4000000 in
theorem payloadSize_any {p k g : Int} {F : Fd} (h : FV p k g F) (s : ByteArray) (w : World) (hs : s.size ≤ 1048576) :
    Calls Tryz.prog 182 #[.agg #[.int .i64 p, .int .i64 k, .int .i64 g], .string s] w fun e w' => e = .returned (.tuple #[.int .i64 (payN F.k s.data.toList), .int .i64 (payD F.k s.data.toList)]) ∧ Below w.heap.size w w' := by
  have H := Lib.hid h
  have hk3 := h.ok.k3
  have hk8 := h.ok.k8
  obtain ⟨S, hS⟩ : ∃ S, S = s.data.toList := ⟨_, rfl⟩
  have hSl : S.length = s.size := by rw [hS]; rfl
  obtain ⟨P, hP⟩ : ∃ P, P = payS F.k S := ⟨_, rfl⟩
  have HP := Lib.hid hP
  have HS := Lib.hid hS
  rw [← hS]
  clear h hP hS
  by_cases h400 : s.size ≤ 400
  · have hbd := hdC_bd _ S (Nat.le_refl _)
    obtain ⟨L, hL⟩ : ∃ L, L = (hdC S).l := ⟨_, rfl⟩
    have hLb : 0 ≤ L ∧ L ≤ 7600 := by
      rw [hL]
      have h1 := hbd.1
      have h2 := hbd.2.1
      omega
    have HLe := Lib.hid hL
    obtain ⟨K, hK⟩ : ∃ K : Int, K = (F.k : Int) := ⟨_, rfl⟩
    have hKb : 3 ≤ K ∧ K ≤ 8 := by omega
    have HK := Lib.hid hK
    obtain ⟨N, hN⟩ : ∃ N, (L + K - 1) / K = N := ⟨_, rfl⟩
    have hNb : 0 ≤ N ∧ N ≤ 7607 := by
      rw [← hN]
      exact ⟨Int.ediv_nonneg (by omega) (by omega), Int.le_trans (Int.ediv_le_self _ (by omega)) (by omega)⟩
    obtain ⟨M, hM⟩ : ∃ M, (if 1 < N then N else 1) = M := ⟨_, rfl⟩
    have hMb : 1 ≤ M ∧ M ≤ 7607 := by rw [← hM]; split <;> omega
    have HPe := Lib.hid (show P = if M ≤ 1500 then some M else none by
      have e : needS F.k S = M := by
        unfold needS
        rw [← HLe.out, ← HK.out, hN, ← hM]
        split <;> split <;> omega
      rw [HP.out, payS, e]
      by_cases hm : M ≤ 1500
      · rw [if_pos ⟨by omega, hm⟩, if_pos hm]
      · rw [if_neg (by omega), if_neg hm])
    have hkz : (K == 0) = false := by rw [beq_eq_false_iff_ne]; omega
    have h1 : decide (s.size ≤ 400) = true := decide_eq_true h400
    clear hbd hL hSl hK
    rcases Decidable.em (M ≤ 1500) with hm | hm
    · have hm' : decide ((1500 : Int) < M) = false := by simp; omega
      have HR := Lib.hid (payYes (HP.out.symm.trans (HPe.out.trans (if_pos hm))))
      clear hm
      go_enter Tryz.func182, Tryz.ntmps182
      go_wp2_with fail
      refine (calc_fv H.out _).mono ?_
      rintro e w1 ⟨hb1, a1, rfl, ha⟩
      obtain ⟨b, rfl, -, hA⟩ := ha rfl
      have HA := Lib.hid hA
      have HB1 := Lib.hid (bt1 hb1)
      clear hb1 ha hA
      go_wp2_with fail
      refine (isMessage_any s _ hs).mono ?_
      rw [h1]
      rintro e w' ⟨rfl, rfl⟩
      go_wp2_with fail
      refine (bestLength_any s _ h400).mono ?_
      rw [← HS.out, ← HLe.out]
      rintro e w3 ⟨rfl, hb3⟩
      have HB3 := Lib.hid (bt0 HB1.out hb3 (Nat.le_refl _))
      have HA3 := Lib.hid (HA.out.below hb3)
      clear hb3
      go_wp2_with fail
      refine (width_any F H.out.fd b _ HA3.out).mono ?_
      rw [← HK.out]
      rintro e w2 hq2
      obtain ⟨rfl, hb2⟩ := hq2.below
      have HB2 := Lib.hid (bt0 HB3.out hb2 (Nat.le_refl _))
      have HA2 := Lib.hid (HA3.out.below hb2)
      clear hq2 hb2
      go_wp2_with fail
      refine (width_any F H.out.fd b _ HA2.out).mono ?_
      rw [← HK.out]
      rintro e w4 hq4
      obtain ⟨rfl, hb4⟩ := hq4.below
      have HB4 := Lib.hid (bt0 HB2.out hb4 (Nat.le_refl _))
      clear hq4 hb4
      go_wp2_with fail
      go_ret2
      exact ⟨by rw [HR.out.1, HR.out.2]; rfl, HB4.out⟩
    · have hm' : decide ((1500 : Int) < M) = true := by simp; omega
      have HR := Lib.hid (payNo (HP.out.symm.trans (HPe.out.trans (if_neg hm))))
      clear hm
      go_enter Tryz.func182, Tryz.ntmps182
      go_wp2_with fail
      refine (calc_fv H.out _).mono ?_
      rintro e w1 ⟨hb1, a1, rfl, ha⟩
      obtain ⟨b, rfl, -, hA⟩ := ha rfl
      have HA := Lib.hid hA
      have HB1 := Lib.hid (bt1 hb1)
      clear hb1 ha hA
      go_wp2_with fail
      refine (isMessage_any s _ hs).mono ?_
      rw [h1]
      rintro e w' ⟨rfl, rfl⟩
      go_wp2_with fail
      refine (bestLength_any s _ h400).mono ?_
      rw [← HS.out, ← HLe.out]
      rintro e w3 ⟨rfl, hb3⟩
      have HB3 := Lib.hid (bt0 HB1.out hb3 (Nat.le_refl _))
      have HA3 := Lib.hid (HA.out.below hb3)
      clear hb3
      go_wp2_with fail
      refine (width_any F H.out.fd b _ HA3.out).mono ?_
      rw [← HK.out]
      rintro e w2 hq2
      obtain ⟨rfl, hb2⟩ := hq2.below
      have HB2 := Lib.hid (bt0 HB3.out hb2 (Nat.le_refl _))
      have HA2 := Lib.hid (HA3.out.below hb2)
      clear hq2 hb2
      go_wp2_with fail
      refine (width_any F H.out.fd b _ HA2.out).mono ?_
      rw [← HK.out]
      rintro e w4 hq4
      obtain ⟨rfl, hb4⟩ := hq4.below
      have HB4 := Lib.hid (bt0 HB2.out hb4 (Nat.le_refl _))
      clear hq4 hb4
      go_wp2_with fail
      go_ret2
      exact ⟨by rw [HR.out.1, HR.out.2]; rfl, HB4.out⟩
  · have HR := Lib.hid (payNo (HP.out.symm.trans (show P = none by rw [HP.out, payS, if_neg (by omega)])))
    have h1 : decide (s.size ≤ 400) = false := decide_eq_false h400
    go_enter Tryz.func182, Tryz.ntmps182
    go_wp2_with fail
    refine (calc_fv H.out _).mono ?_
    rintro e w1 ⟨hb1, a1, rfl, ha⟩
    have HB1 := Lib.hid (bt1 hb1)
    clear hb1 ha
    go_wp2_with fail
    refine (isMessage_any s _ hs).mono ?_
    rw [h1]
    rintro e w' ⟨rfl, rfl⟩
    go_wp2_with fail
    go_ret2
    exact ⟨by rw [HR.out.1, HR.out.2]; rfl, HB1.out⟩

end Go.Proofs.YtlcglclojlffgaaGreatDoor
namespace Go.Proofs.YtlcglclojlffgaaGreatDoor
open Go.RowKit

/-- a text cut at every byte c -/
def cut (c : UInt8) : List UInt8 → List (List UInt8)
  | [] => [[]]
  | x :: r => if x = c then [] :: cut c r else match cut c r with
    | [] => [[x]]
    | h :: t => (x :: h) :: t

theorem cut_ne (c : UInt8) (l : List UInt8) : cut c l ≠ [] := by
  cases l with
  | nil => simp [cut]
  | cons x r => rw [cut]; split; · simp
                split <;> simp

theorem index1_cases (c : UInt8) : ∀ l : List UInt8, Lib.index l [c] = -1 ∨ ∃ i : Nat, Lib.index l [c] = i
  | [] => by left; rw [Lib.index.eq_1]; simp
  | x :: r => by
    rw [Lib.index.eq_2]
    split
    · exact .inr ⟨0, rfl⟩
    · split
      · exact .inl rfl
      · rename_i _ h
        rcases index1_cases c r with h2 | ⟨i, h2⟩
        · simp [h2] at h
        · exact .inr ⟨i + 1, by rw [h2]; rfl⟩

theorem splitK_cut (c : UInt8) : ∀ l : List UInt8, Lib.splitK [c] 0 (Lib.count l [c]) l = cut c l
  | [] => by rw [Lib.count_one]; simp [Lib.splitK.eq_1, cut]
  | x :: r => by
    have ih := splitK_cut c r
    by_cases hx : x = c
    · subst hx
      rw [Lib.count_cons_eq, Nat.add_comm, Lib.splitK.eq_2, Lib.index.eq_2]
      simp [cut, ih]
    · rw [Lib.count_cons_ne _ _ _ hx, cut, if_neg hx, ← ih]
      generalize Lib.count r [c] = k
      cases k with
      | zero => simp [Lib.splitK.eq_1]
      | succ k =>
        rw [Lib.splitK.eq_2, Lib.splitK.eq_2, Lib.index.eq_2]
        have hp : ([c] : List UInt8).isPrefixOf (x :: r) = false := by
          simp [List.isPrefixOf]; exact fun h => hx h.symm
        rw [hp]
        rcases index1_cases c r with h2 | ⟨i, h2⟩
        · simp [h2]
        · have h3 : ¬ ((i : Int) == -1) = true := by simp <;> omega
          have h4 : ¬ (((i : Int) + 1) == -1) = true := by simp <;> omega
          simp only [h2, if_neg h3, Bool.false_eq_true, if_false, if_neg h4]
          have h5 : ((i : Int) + 1).toNat = i + 1 := by omega
          have h6 : ((i : Int)).toNat = i := by omega
          simp [h5, h6]

theorem splitB_cut (s : ByteArray) (c : UInt8) :
    (Lib.splitB ⟨#[c]⟩ 0 (Lib.countB s ⟨#[c]⟩) s).map (fun x => x.data.toList) = cut c s.data.toList := by
  rw [Lib.splitB_data]; exact splitK_cut c _

/-- texts put together with a byte between them -/
def glue (c : UInt8) : List (List UInt8) → List UInt8
  | [] => []
  | [h] => h
  | h :: t => h ++ c :: glue c t

theorem glue_cons (c : UInt8) (h : List UInt8) (t : List (List UInt8)) (ht : t ≠ []) : glue c (h :: t) = h ++ c :: glue c t := by
  cases t with
  | nil => exact absurd rfl ht
  | cons => rfl

theorem cut_piece (c : UInt8) : ∀ l : List UInt8, c ∉ l → cut c l = [l]
  | [] => fun _ => rfl
  | x :: r => fun h => by
    simp at h
    rw [cut, if_neg (fun e => h.1 e.symm), cut_piece c r h.2]

theorem cut_app (c : UInt8) : ∀ (p l : List UInt8), c ∉ p → cut c (p ++ c :: l) = p :: cut c l
  | [], l => fun _ => by simp [cut]
  | x :: r, l => fun h => by
    simp at h
    rw [List.cons_append, cut, if_neg (fun e => h.1 e.symm), cut_app c r l h.2]

theorem cut_glue (c : UInt8) : ∀ ps : List (List UInt8), ps ≠ [] → (∀ p ∈ ps, c ∉ p) → cut c (glue c ps) = ps
  | [] => fun h => absurd rfl h
  | [p] => fun _ h => cut_piece c p (h p (by simp))
  | p :: q :: t => fun _ h => by
    rw [glue_cons _ _ _ (by simp), cut_app c p _ (h p (by simp)), cut_glue c (q :: t) (by simp) (fun x hx => h x (by simp [hx]))]

/-- the library's reading of a decimal -/
theorem parseUintM_dec (M : Nat) (hM : M ≤ 18446744073709551615) : ∀ (u : Nat), u ≤ M → ∀ r, Lib.parseUintM M 0 (Lib.decDigits u ++ r) = Lib.parseUintM M u r := by
  intro u
  induction u using Nat.strongRecOn with
  | _ u ih =>
    intro hu r
    rw [Lib.decDigits.eq_1]
    split
    · rename_i h
      have h1 : (UInt8.ofNat (48 + u)).toNat = 48 + u := by simp; omega
      rw [List.singleton_append, Lib.parseUintM.eq_2, h1, if_pos (by omega), if_neg (by omega), if_neg (by omega)]
      congr 1; omega
    · rename_i h
      have h1 : (UInt8.ofNat (48 + u % 10)).toNat = 48 + u % 10 := by simp; omega
      rw [List.append_assoc, ih (u / 10) (by omega) (by omega), List.singleton_append, Lib.parseUintM.eq_2, h1, if_pos (by omega), if_neg (by omega), if_neg (by omega)]
      congr 1; omega

theorem decDigits_ne (u : Nat) : Lib.decDigits u ≠ [] := by
  rw [Lib.decDigits.eq_1]; split <;> simp

theorem dec_digit : ∀ (u : Nat), ∀ x ∈ Lib.decDigits u, 48 ≤ x.toNat ∧ x.toNat ≤ 57 := by
  intro u
  induction u using Nat.strongRecOn with
  | _ u ih =>
    rw [Lib.decDigits.eq_1]
    split
    · intro x hx; simp at hx; subst hx; simp; omega
    · intro x hx
      rcases List.mem_append.1 hx with hx | hx
      · exact ih (u / 10) (by omega) x hx
      · simp at hx; subst hx; simp; omega

theorem parseUintB_dec (u : Nat) (hu : u ≤ 18446744073709551615) : Lib.parseUintB 64 (Lib.decDigits u) = .ok u := by
  have h := parseUintM_dec (2 ^ 64 - 1) (by omega) u (by omega) []
  rw [List.append_nil] at h
  rw [Lib.parseUintB, if_neg (decDigits_ne u), h, Lib.parseUintM.eq_1]

theorem parseIntB_itoa (n : Int) (h0 : -9223372036854775808 ≤ n) (h1 : n ≤ 9223372036854775807) : Lib.parseIntB 64 (Lib.itoa n) = .ok n := by
  by_cases hn : n < 0
  · have e : Lib.itoa n = 45 :: Lib.decDigits n.natAbs := by rw [Lib.itoa, if_pos hn]
    rw [e, Lib.parseIntB_minus, parseUintB_dec _ (by omega), Lib.signedC, if_neg (by omega)]
    congr 1; omega
  · have e : Lib.itoa n = Lib.decDigits n.toNat := by rw [Lib.itoa, if_neg hn]
    rw [e]
    have hd := dec_digit n.toNat
    have hp := parseUintB_dec n.toNat (by omega)
    cases he : Lib.decDigits n.toNat with
    | nil => exact absurd he (decDigits_ne _)
    | cons c r =>
      rw [he] at hd hp
      have := hd c (by simp)
      rw [Lib.parseIntB_plain _ _ _ (by omega) (by omega), hp, Lib.signlessC, if_neg (by omega)]
      congr 1; omega

end Go.Proofs.YtlcglclojlffgaaGreatDoor
namespace Go.Proofs.YtlcglclojlffgaaGreatDoor
open Go.RowKit

/-- the number that digits spell -/
def dval (l : List UInt8) : Nat := l.foldl (fun n x => 10 * n + (x.toNat - 48)) 0

theorem dval_dec : ∀ u : Nat, dval (Lib.decDigits u) = u := by
  intro u
  induction u using Nat.strongRecOn with
  | _ u ih =>
    rw [Lib.decDigits.eq_1]
    split
    · rename_i h
      have h1 : (UInt8.ofNat (48 + u)).toNat = 48 + u := by simp; omega
      simp only [dval, List.foldl_cons, List.foldl_nil, h1]; omega
    · rename_i h
      have h1 : (UInt8.ofNat (48 + u % 10)).toNat = 48 + u % 10 := by simp; omega
      have h2 := ih (u / 10) (by omega)
      unfold dval at h2 ⊢
      rw [List.foldl_append, h2]
      simp only [List.foldl_cons, List.foldl_nil, h1]; omega

theorem dec_len : ∀ (k u : Nat), u < 10 ^ (k + 1) → (Lib.decDigits u).length ≤ k + 1
  | 0, u, h => by rw [Lib.decDigits.eq_1, dif_pos (by omega)]; simp
  | k + 1, u, h => by
    rw [Lib.decDigits.eq_1]
    split
    · simp
    · have := dec_len k (u / 10) (by rw [Nat.pow_succ] at h; omega)
      simp; omega

/-- the reference's reading of a number of at most twelve digits -/
def valS (l : List UInt8) : Option Int :=
  if 1 ≤ l.length ∧ l.length ≤ 12 ∧ (∀ x ∈ l, 48 ≤ x.toNat ∧ x.toNat ≤ 57) ∧ Lib.decDigits (dval l) = l then some (dval l) else none

theorem valS_dec (u : Nat) (h : u < 1000000000000) : valS (Lib.decDigits u) = some (u : Int) := by
  have hl := dec_len 11 u (by simpa using h)
  have hne := decDigits_ne u
  have h1 : 1 ≤ (Lib.decDigits u).length := by
    cases he : Lib.decDigits u with
    | nil => exact absurd he hne
    | cons => simp
  unfold valS
  rw [dval_dec, if_pos ⟨h1, by omega, dec_digit u, rfl⟩]

theorem itoa_mem (n : Int) : ∀ x ∈ Lib.itoa n, x.toNat = 45 ∨ (48 ≤ x.toNat ∧ x.toNat ≤ 57) := by
  intro x hx
  unfold Lib.itoa at hx
  split at hx
  · rcases List.mem_cons.1 hx with rfl | hx
    · exact .inl rfl
    · exact .inr (dec_digit _ x hx)
  · exact .inr (dec_digit _ x hx)

theorem itoa_no (n : Int) (c : UInt8) (hc : c.toNat ≠ 45) (hd : ¬ (48 ≤ c.toNat ∧ c.toNat ≤ 57)) : c ∉ Lib.itoa n := by
  intro hx
  rcases itoa_mem n c hx with h | h
  · exact hc h
  · exact hd h

end Go.Proofs.YtlcglclojlffgaaGreatDoor
namespace Go.Proofs.YtlcglclojlffgaaGreatDoor
open Go.RowKit

/-- a record in two numbers -/
structure Rc where
  k : Int
  n : Int
def Rc.ok (r : Rc) : Bool := inB r.k 1 4 && inB r.n 0 199
/-- the program's reading of a number that is not negative -/
def rdec (l : List UInt8) : Option Int :=
  if l = [] ∨ (1 < l.length ∧ l[0]? = some 48) ∨ l[0]? = some 43 ∨ l[0]? = some 45 then none
  else match Lib.parseIntB 64 l with | .ok n => some n | _ => none
theorem dec_head : ∀ u : Nat, 10 ≤ u → (Lib.decDigits u)[0]? ≠ some 48 := by
  intro u
  induction u using Nat.strongRecOn with
  | _ u ih =>
    intro h
    rw [Lib.decDigits.eq_1, dif_neg (by omega)]
    by_cases h2 : u / 10 < 10
    · rw [Lib.decDigits.eq_1, dif_pos h2]
      intro e
      have h3 : UInt8.ofNat (48 + u / 10) = 48 := by
        rw [List.singleton_append, List.getElem?_cons_zero] at e
        exact Option.some.inj e
      have : (UInt8.ofNat (48 + u / 10)).toNat = 48 := by rw [h3]; rfl
      rw [UInt8.toNat_ofNat'] at this
      omega
    · have := ih (u / 10) (by omega) (by omega)
      rw [List.getElem?_append_left]
      · exact this
      · cases he : Lib.decDigits (u / 10) with
        | nil => exact absurd he (decDigits_ne _)
        | cons => simp
theorem rdec_itoa {n : Int} (h0 : 0 ≤ n) (h1 : n ≤ 9223372036854775807) : rdec (Lib.itoa n) = some n := by
  unfold rdec
  rw [if_neg, parseIntB_itoa n (by omega) h1]
  obtain ⟨u, rfl⟩ := Int.eq_ofNat_of_zero_le h0
  rw [Lib.itoa_nonneg]
  have hd := dec_digit u
  have hh := dec_head u
  rintro (h | ⟨h, h2⟩ | h | h)
  · exact decDigits_ne _ h
  · by_cases hu : 10 ≤ u
    · exact hh hu h2
    · rw [Lib.decDigits.eq_1, dif_pos (by omega)] at h; simp at h
  · have := hd 43 (List.mem_of_getElem? h); simp at this
  · have := hd 45 (List.mem_of_getElem? h); simp at this

end Go.Proofs.YtlcglclojlffgaaGreatDoor
namespace Go.Proofs.YtlcglclojlffgaaGreatDoor
open Go.RowKit

/-- a family in memory: what it holds, and the blocks of its sizes and levels -/
structure FmR where
  f : Fam
  b1 : Nat
  b2 : Nat
/-- rows of families -/
def fmE : Enc FmR where
  enc r := [.string r.f.name, .int .i64 r.f.kind, .int .i64 r.f.fp, .int .i64 r.f.fk, .int .i64 r.f.fg, .slice (some ⟨r.b1, 0, none⟩) r.f.sizes.length r.f.sizes.length, .int .i64 r.f.cols, .slice (some ⟨r.b2, 0, none⟩) r.f.levels.length r.f.levels.length]
  k := 8
  t := 123
  bytes := 104
  len _ := rfl
  one := by
    intro r u hu
    simp only [List.mem_cons, List.not_mem_nil, or_false] at hu
    rcases hu with rfl | rfl | rfl | rfl | rfl | rfl | rfl | rfl <;> rfl
  pos := by decide
theorem infoFm : (Tryz.prog.info? 123).map (fun i => (i.zero, i.size, i.bytes)) = some (some (.agg #[.string ⟨#[]⟩, .int .i64 0, .int .i64 0, .int .i64 0, .int .i64 0, .slice none 0 0, .int .i64 0, .slice none 0 0]), 8, 104) := by kernel_rfl
end Go.Proofs.YtlcglclojlffgaaGreatDoor
namespace Go.Proofs.YtlcglclojlffgaaGreatDoor
open Go.RowKit

/-- the library's lock in this program -/
def muLink : Go.Conc.Locks.MuLink := { lock := 213, unlock := 214, ilock := 221, iunlock := 222, lockSlow := 232, unlockSlow := 235, disable := 228, enable := 230, acquire := 231, relMerge := 233, cas32 := 229, add32 := 234, tMutex := 243, tIMutex := 241, tPMutex := 286, tPIMutex := 300, tPI32 := 302, tUP := 304, tNoCopy := 236, tU32 := 173 }
theorem muLib : Go.Conc.Locks.MuLib Tryz.prog muLink :=
  ⟨Tryz.func213, Tryz.func214, Tryz.func221, Tryz.func222, Tryz.func228, Tryz.func230, Tryz.func231, Tryz.func233, Tryz.func229, Tryz.func234,
    Tryz.underlying241, Tryz.runUnderlying241, Tryz.sizeOf241, Tryz.isAgg241, Tryz.zeroValue241,
    Tryz.underlying243, Tryz.runUnderlying243, Tryz.sizeOf243, Tryz.isAgg243, Tryz.zeroValue243,
    Tryz.underlying286, Tryz.runUnderlying286, Tryz.sizeOf286, Tryz.isAgg286, Tryz.zeroValue286,
    Tryz.underlying300, Tryz.runUnderlying300, Tryz.sizeOf300, Tryz.isAgg300, Tryz.zeroValue300,
    Tryz.underlying302, Tryz.runUnderlying302, Tryz.sizeOf302, Tryz.isAgg302, Tryz.zeroValue302,
    Tryz.underlying304, Tryz.runUnderlying304, Tryz.sizeOf304, Tryz.isAgg304, Tryz.zeroValue304,
    Tryz.underlying236, Tryz.runUnderlying236, Tryz.sizeOf236, Tryz.isAgg236, Tryz.zeroValue236,
    Tryz.underlying21, Tryz.runUnderlying21, Tryz.sizeOf21, Tryz.isAgg21, Tryz.zeroValue21, (by kernel_rfl)⟩

theorem lock_any (a : Addr) (w : World) (hc : w.cell? a = some (.int .i32 0)) (hz : w.frozen? a = false) :
    Calls Tryz.prog 213 #[.pointer (some a)] w fun e w' => e = .returned (.tuple #[]) ∧ w' = w.setCell a (.int .i32 1) :=
  Go.MuLone.lock_free muLib a w hc hz
theorem unlock_def (a : Addr) (u : FrameMode) (w : World) (hc : w.cell? a = some (.int .i32 1)) (hz : w.frozen? a = false) :
    CallsD Tryz.prog 214 #[.pointer (some a)] u w fun e u' w' => u' = u ∧ (e = .returned (.tuple #[]) ∧ w' = w.setCell a (.int .i32 0)) :=
  Go.MuLone.unlock_deferred muLib a u w hc hz

end Go.Proofs.YtlcglclojlffgaaGreatDoor
namespace Go.Proofs.YtlcglclojlffgaaGreatDoor
open Go.RowKit

/-- '(*sync/atomic.Bool).Load': the cell tells. -/
theorem boolLoad_any (a : Addr) (d : Int) (w : World) (hc : w.cell? a = some (.int .u32 d)) :
    Calls Tryz.prog 200 #[.pointer (some a)] w fun e w' => e = .returned (.bool (d != 0)) ∧ w = w' := by
  have hl := run_call_load (P := Tryz.prog) Tryz.func212 (by kernel_rfl) (by kernel_rfl) (by kernel_rfl) .u32 (by kernel_rfl) hc
  go_enter Tryz.func200, Tryz.ntmps200
  go_wp2
  go_ret
  exact ⟨rfl, rfl⟩
/-- '(*sync/atomic.Bool).Store(true)', entered as a deferred call: the cell holds 1. -/
theorem boolStore_def (a : Addr) (x : Value) (u : FrameMode) (w : World) (hc : w.cell? a = some x) (hz : w.frozen? a = false) :
    CallsD Tryz.prog 215 #[.pointer (some a), .bool true] u w fun e u' w' => u' = u ∧ (e = .returned (.tuple #[]) ∧ w' = w.drew.setCell a (.int .u32 1)) := by
  have hc' : w.drew.cell? a = some x := by go_simp
  have hz' : w.drew.frozen? a = false := by go_simp
  have hst := run_call_store (P := Tryz.prog) Tryz.func223 (by kernel_rfl) (by kernel_rfl) (by kernel_rfl) (by kernel_rfl) (k := .u32) (y := 1) hc' hz'
  go_enter_d Tryz.func215, Tryz.ntmps215
  go_wp2
  go_region_calls
  all_goals (go_end0; exact ⟨rfl, rfl⟩)
/-- a once's cells in the block b, and what follows them -/
def OnceAt (w : World) (b : Nat) (d m : Int) (x : Value) (T : TypeId) : Prop := w.heap[b]? = some (.cells #[.int .u32 d, .int .i32 m, .int .u32 0, x] T (0, 0))
theorem OnceAt.cells {w : World} {b : Nat} {d m : Int} {x : Value} {T : TypeId} (h : OnceAt w b d m x T) : w.cell? ⟨b, 0, none⟩ = some (.int .u32 d) ∧ w.cell? ⟨b, 1, none⟩ = some (.int .i32 m) ∧ w.cell? ⟨b, 3, none⟩ = some x ∧ (∀ i, w.frozen? ⟨b, i, none⟩ = false) ∧ b < w.heap.size := by
  obtain ⟨hc, hf⟩ := heap_cellR h
  exact ⟨hc 0, hc 1, hc 3, hf, blkLt h⟩
set_option maxRecDepth 100000 in
set_option maxHeartbeats 1600000 in
/-- '(*sync.Once).doSlow', not yet done, the lock free: the function is called with the lock held. -/
theorem doSlow_any (b : Nat) (K : FuncId) (p : Value) (x : Value) (T : TypeId) (w : World) (R : Value → World → Prop) (h : OnceAt w b 0 0 x T) (hK : ∀ (args : Array Value) (W : World), (callFunc K args).run Tryz.prog W = .ok (.enter K args) W)
    (HF : Calls Tryz.prog K #[p] (w.setCell ⟨b, 1, none⟩ (.int .i32 1)) fun e w' => e = .returned (.tuple #[]) ∧ ∃ y, OnceAt w' b 0 1 y T ∧ R y w') :
    Calls Tryz.prog 201 #[.pointer (some ⟨b, 0, none⟩), .func (.func K) #[p] #[]] w fun e w' => e = .returned (.tuple #[]) ∧ ∃ y w2, R y w2 ∧ OnceAt w2 b 0 1 y T ∧ w' = (w2.drew.setCell ⟨b, 0, none⟩ (.int .u32 1)).setCell ⟨b, 1, none⟩ (.int .i32 0) := by
  obtain ⟨h0, h1, h3, hf, hlt⟩ := h.cells
  have HFh := Lib.hid HF
  have HK := Lib.hid hK
  clear HF hK h
  have h0' : (w.setCell ⟨b, 1, none⟩ (.int .i32 1)).cell? ⟨b, 0, none⟩ = some (.int .u32 0) := (World.cell?_setCell_other _ ⟨b, 1, none⟩ ⟨b, 0, none⟩ _ (by simp)).trans h0
  have HLd := Lib.hid (boolLoad_any ⟨b, 0, none⟩ 0 (w.setCell ⟨b, 1, none⟩ (.int .i32 1)) h0')
  have HLk := Lib.hid (lock_any ⟨b, 1, none⟩ w h1 (hf 1))
  go_enter_defers Tryz.func201, Tryz.ntmps201
  go_wp2_with fail
  refine HLk.out.mono ?_
  rintro e w' ⟨rfl, rfl⟩
  go_wp2_with fail
  refine HLd.out.mono ?_
  rintro e w' ⟨rfl, rfl⟩
  go_wp2_with fail
  rw [HK.out]
  refine HFh.out.mono ?_
  rintro e w2 ⟨rfl, y, hO, hR⟩
  obtain ⟨g0, g1, g3, gf, glt⟩ := hO.cells
  go_wp2_with fail
  refine leaves_cons (f := 215) (args := #[.pointer (some ⟨b, 0, none⟩), .bool true]) (by simp) (by simp [go_sem]) ?_
  refine (boolStore_def ⟨b, 0, none⟩ (.int .u32 0) .returning w2 g0 (gf 0)).mono ?_
  rintro e u' w'' ⟨rfl, rfl, rfl⟩
  refine leaves_cons (f := 214) (args := #[.pointer (some ⟨b, 1, none⟩)]) (by simp [settle]) (by simp [go_sem]) ?_
  refine (unlock_def ⟨b, 1, none⟩ _ _ ?_ ?_).mono ?_
  · exact (World.cell?_setCell_other _ ⟨b, 0, none⟩ ⟨b, 1, none⟩ _ (by simp)).trans (by rw [World.cell?_drew]; exact g1)
  · simp [gf 1]
  rintro e u' w'' ⟨rfl, rfl, rfl⟩
  exact ⟨.tuple #[], by simp [results, Tryz.results201, go_sem], rfl, y, w2, hR, hO, rfl⟩

/-- '(*sync.Once).Do', not yet done. -/
theorem do_first (b : Nat) (K : FuncId) (p : Value) (x : Value) (T : TypeId) (w : World) (R : Value → World → Prop) (h : OnceAt w b 0 0 x T) (hK : ∀ (args : Array Value) (W : World), (callFunc K args).run Tryz.prog W = .ok (.enter K args) W)
    (HF : Calls Tryz.prog K #[p] (w.setCell ⟨b, 1, none⟩ (.int .i32 1)) fun e w' => e = .returned (.tuple #[]) ∧ ∃ y, OnceAt w' b 0 1 y T ∧ R y w') :
    Calls Tryz.prog 185 #[.pointer (some ⟨b, 0, none⟩), .func (.func K) #[p] #[]] w fun e w' => e = .returned (.tuple #[]) ∧ ∃ y w2, R y w2 ∧ OnceAt w2 b 0 1 y T ∧ w' = (w2.drew.setCell ⟨b, 0, none⟩ (.int .u32 1)).setCell ⟨b, 1, none⟩ (.int .i32 0) := by
  have HLd := Lib.hid (boolLoad_any ⟨b, 0, none⟩ 0 w h.cells.1)
  have HS := Lib.hid (doSlow_any b K p x T w R h hK HF)
  clear HF hK h
  go_enter Tryz.func185, Tryz.ntmps185
  go_wp2_with fail
  refine HLd.out.mono ?_
  rintro e w' ⟨rfl, rfl⟩
  go_wp2_with fail
  refine HS.out.mono ?_
  rintro e w' ⟨rfl, y, w2, hR, hO, rfl⟩
  go_wp2_with fail
  go_end0
  exact ⟨rfl, y, w2, hR, hO, rfl⟩

end Go.Proofs.YtlcglclojlffgaaGreatDoor
namespace Go.Proofs.YtlcglclojlffgaaGreatDoor
open Go.RowKit

/-- what an append of one family leaves -/
theorem append_run (W : World) (ty : TypeId) (base : Nat) (v : Value) (xs : List FmR) (y : FmR) (hown : fmE.Own W base v xs) (g : Nat) (C : Array Value)
    (hg : W.heap[g]? = some (.cells C 123 (0, 0))) (hC : C.toList = fmE.enc y) (hl : xs.length ≤ 1000000000) (hb : base ≤ W.heap.size) :
    ∃ v9 w9, (Builtin.append_ #[141, 141] ty #[v, .slice (some ⟨g, 0, none⟩) 1 1]).run Tryz.prog W = .ok v9 w9 ∧ fmE.Own w9 base v9 (xs ++ [y]) ∧ W.grownBy w9 v.ownBlock ∧ Below base W w9 := by
  obtain ⟨i0, hi, y0, y1, y2⟩ := info_parts infoFm
  obtain ⟨v9, w9, h1, h2, h3, -⟩ := run_append_own (P := Tryz.prog) W base 141 ty 123 i0 _ 8 104 Tryz.underlying141 hi y0 y1 y2 rfl (by decide) v xs.length (xs.flatMap fmE.enc) hown ⟨g, 0, none⟩ 1 1 (fmE.enc y) rfl (fmE.new_at hg hC) (fmE.one y) (by unfold maxLen; omega) (by omega) hb
  exact ⟨v9, w9, h1, Enc.Own.snoc h2, h3, below_of_grownBy h3 hb (fun k hk => hown.lo k hk)⟩

theorem append_leaves {P : Program} {o : Oper} {a : Act} {W : World} {R : Value → World → Prop} (s x : Operand) (t : TypeId) (ho : o.op = .call { callee := .builtin .append, args := #[s, x], argTypes := #[t, t] })
    {v sl v9 : Value} {w9 : World} (hs : a.eval s = v) (hx : a.eval x = sl) (hr : (Builtin.append_ #[t, t] o.type #[v, sl]).run P W = .ok v9 w9) (h : R v9 w9) : leaves P o a W R := by
  unfold leaves execOp
  simp only [ho, resolve, invoke, builtin, Sem.run_bind, Sem.run_pure, Result.andThen_ok, List.map_toArray, List.map_cons, List.map_nil, hs, hx, hr]
  exact h
def spT (p : Value → Prop) : Sp (fun _ _ : World => True) := ⟨fun u _ => p u, fun _ _ _ _ h => h⟩
def St3 (W0 W1 w9 : World) (L : Nat → Bool) (W : World) : Prop :=
  (L 13 = true → L 12 = true) ∧ ((L 12 = false ∧ W = W0) ∨ (L 12 = true ∧ L 13 = false ∧ W = W1) ∨ (L 13 = true ∧ W = w9))
theorem St3.any {W0 W1 w9 : World} {L : Nat → Bool} {W : World} (h : St3 W0 W1 w9 L W) : W = W0 ∨ W = W1 ∨ W = w9 := by
  rcases h.2 with h | h | h
  · exact .inl h.2
  · exact .inr (.inl h.2.2)
  · exact .inr (.inr h.2)
theorem St3.same {W0 W1 w9 : World} {L : Nat → Bool} {W : World} (h : St3 W0 W1 w9 L W) (i : Nat) (hi : i ≠ 12) (hj : i ≠ 13) : St3 W0 W1 w9 (fun j => L j || i == j) W := by
  have e1 : (i == 12) = false := by simpa using hi
  have e2 : (i == 13) = false := by simpa using hj
  simpa only [St3, e1, e2, Bool.or_false] using h
set_option maxRecDepth 100000 in
set_option maxHeartbeats 2000000 in
/-- the closure 'add' of '(*shelf).build' -/
theorem addFm_any (b0 b base : Nat) (T0 T : TypeId) (v : Value) (xs : List FmR) (y : FmR) (S k g : Nat) (hS : S = 2 ^ k) (hL : Least k g) (hy : y.f.fp = 2 ∧ y.f.fk = k ∧ y.f.fg = g) (w : World)
    (h0 : w.heap[b0]? = some (.cells #[.pointer (some ⟨b, 0, none⟩)] T0 (0, 0))) (h1 : OnceAt w b 0 1 v T) (hb0 : b0 < base) (hb : b < base) (_hbb : b0 ≠ b) (hbase : base ≤ w.heap.size) (ho : fmE.Own w base v xs) (hl : xs.length ≤ 100) :
    Calls Tryz.prog 202 #[.string y.f.name, .int .i64 y.f.kind, .int .i64 S, .int .i64 y.f.cols, .slice (some ⟨y.b1, 0, none⟩) y.f.sizes.length y.f.sizes.length, .slice (some ⟨y.b2, 0, none⟩) y.f.levels.length y.f.levels.length, .pointer (some ⟨b0, 0, none⟩)] w
      fun e w' => e = .returned (.tuple #[]) ∧ ∃ v', fmE.Own w' base v' (xs ++ [y]) ∧ OnceAt w' b 0 1 v' T ∧ Below 0 w w' ∧ w.heap.size ≤ w'.heap.size ∧ ∀ j, j < w.heap.size → j ≠ b → v.ownBlock ≠ some j → w'.heap[j]? = w.heap[j]? := by
  obtain ⟨y1, y2, y3⟩ := hy
  have HF := Lib.hid (fieldOf_any S k g hS hL w)
  have H0 := Lib.hid h0
  have H1 := Lib.hid h1
  have HO := Lib.hid ho
  clear hS hL h0 h1 ho
  go_enter Tryz.func202, Tryz.ntmps202
  go_wp2_with fail
  refine HF.out.mono ?_
  rintro e w1 ⟨rfl, hb1⟩
  go_wp2_with fail
  have hz := push_at w1 (.cells #[.int .i64 2, .int .i64 k, .int .i64 g] 121 (0, 0))
  have hz1 := ba1 w1 (.cells #[.int .i64 2, .int .i64 k, .int .i64 g] 121 (0, 0))
  try generalize w1.alloc (.cells #[.int .i64 2, .int .i64 k, .int .i64 g] 121 (0, 0)) = w2 at hz hz1 ⊢
  have hB : Below w.heap.size w w2.drew := (hb1.trans (hz1.mono hb1.size)).drew
  obtain ⟨q, hq⟩ : ∃ q, q = w1.heap.size := ⟨_, rfl⟩
  have hqw : w.heap.size ≤ q := by rw [hq]; exact hb1.size
  rw [← hq] at hz ⊢
  clear hq hz1 hb1
  obtain ⟨W0, hW0⟩ : ∃ W0, W0 = w2.drew := ⟨_, rfl⟩
  have hz0 : W0.heap[q]? = some (.cells #[.int .i64 2, .int .i64 k, .int .i64 g] 121 (0, 0)) := by rw [hW0]; exact hz
  have HW0 := Lib.hid hW0
  rw [← hW0] at hB
  clear hz hW0
  obtain ⟨C, hC⟩ : ∃ C : Array Value, C = #[.string y.f.name, .int .i64 y.f.kind, .int .i64 2, .int .i64 k, .int .i64 g, .slice (some ⟨y.b1, 0, none⟩) y.f.sizes.length y.f.sizes.length, .int .i64 y.f.cols, .slice (some ⟨y.b2, 0, none⟩) y.f.levels.length y.f.levels.length] := ⟨_, rfl⟩
  obtain ⟨W1, hW1⟩ : ∃ W1, W1 = W0.alloc (.cells C 123 (0, 0)) := ⟨_, rfl⟩
  have hB01 : Below W0.heap.size W0 W1 := by rw [hW1]; exact ba1 _ _
  have hB1 : Below w.heap.size w W1 := hB.trans (hB01.mono hB.size)
  have hg1 : W1.heap[W0.heap.size]? = some (.cells C 123 (0, 0)) := by rw [hW1]; exact push_at _ _
  have ho1 : fmE.Own W1 base v xs := HO.out.grown hB1
  have hs1 := hB1.size
  have hs0 := hB.size
  have hs01 := hB01.size
  obtain ⟨v9, w9, hr, ho9, hgr, hb9⟩ := append_run W1 141 base v xs y ho1 W0.heap.size C hg1 (by rw [hC]; simp [fmE, y1, y2, y3]) (by omega) (by omega)
  have hqlt : q < W0.heap.size := blkLt hz0
  have hown : ∀ j, v.ownBlock = some j → j < w.heap.size := fun j e => HO.out.hi j e
  have HC := Lib.hid (show ∀ W, (W = W0 ∨ W = W1 ∨ W = w9) → W.heap[b0]? = some (.cells #[.pointer (some ⟨b, 0, none⟩)] T0 (0, 0)) ∧ OnceAt W b 0 1 v T ∧ W.heap[q]? = some (.cells #[.int .i64 2, .int .i64 k, .int .i64 g] 121 (0, 0)) by
    have h1a := (hB1.block b0 (by omega)).trans H0.out
    have h1b := (hB1.block b (by omega)).trans H1.out
    have h1q := (hB01.block q hqlt).trans hz0
    rintro W (rfl | rfl | rfl)
    · exact ⟨(hB.block b0 (by omega)).trans H0.out, (hB.block b (by omega)).trans H1.out, hz0⟩
    · exact ⟨h1a, h1b, h1q⟩
    · exact ⟨(hb9.block b0 hb0).trans h1a, (hb9.block b hb).trans h1b, (hgr.block q (by omega) (fun e => by have := hown q e.symm; omega)).trans h1q⟩)
  have HR := Lib.hid hr
  have HW1 := Lib.hid hW1
  have HCC := Lib.hid hC
  clear hr hW1 hC hz0 hB01 hg1 ho1
  refine wp_region_once [20, 21, 22, 23, 24, 25, 26, 27, 28, 29, 30, 31, 32, 33] (fun us => _)
    [spT (· = .pointer (some ⟨b, 0, none⟩)), spT (· = .pointer (some ⟨b, 0, none⟩)), spT (· = .pointer (some ⟨b, 0, none⟩)), spT (· = .pointer (some ⟨b, 3, none⟩)), spT (· = v), spT (· = .string y.f.name), spT (· = .int .i64 y.f.kind), spT (· = .agg #[.int .i64 2, .int .i64 k, .int .i64 g]),
     spT (· = .slice (some ⟨y.b1, 0, none⟩) y.f.sizes.length y.f.sizes.length), spT (· = .int .i64 y.f.cols), spT (· = .slice (some ⟨y.b2, 0, none⟩) y.f.levels.length y.f.levels.length), spT (· = .agg C), spT (· = .slice (some ⟨W0.heap.size, 0, none⟩) 1 1), spT (· = v9)]
    (St3 W0 W1 w9) (by kernel_rfl) (by kernel_rfl) (Nat.le_of_ble_eq_true rfl) (fun us => by simp [over, List.mapIdx_cons]; exact rfl) ⟨fun h => by simp at h, .inl ⟨rfl, HW0.out.symm⟩⟩ (fun _ => trivial) ?_ ?_
  · refine ⟨?_, ?_, ?_, ?_, ?_, ?_, ?_, ?_, ?_, ?_, ?_, ?_, ?_, ?_, trivial⟩
    all_goals (intro us W L hL hst hd; refine ⟨by kernel_rfl, wp_of_leaves (R := fun v w' => _) (fun v w' h => ⟨v, rfl, h⟩) ?_⟩; dsimp only)
    · have hc := (heap_cellR (HC.out W hst.any).1).1
      clear hd
      go_simp
      exact ⟨hst.same 0 (by decide) (by decide), rfl⟩
    · have hc := (heap_cellR (HC.out W hst.any).1).1
      clear hd
      go_simp
      exact ⟨hst.same 1 (by decide) (by decide), rfl⟩
    · have d21 : us 21 = (.pointer (some ⟨b, 0, none⟩)) := (hd ⟨1, .data⟩ (by simp) rfl).2
      clear hd
      go_simp
      exact ⟨hst.same 2 (by decide) (by decide), rfl⟩
    · have d22 : us 22 = (.pointer (some ⟨b, 0, none⟩)) := (hd ⟨2, .data⟩ (by simp) rfl).2
      clear hd
      go_simp
      exact ⟨hst.same 3 (by decide) (by decide), rfl⟩
    · have d23 : us 23 = (.pointer (some ⟨b, 3, none⟩)) := (hd ⟨3, .data⟩ (by simp) rfl).2
      have hc := (HC.out W hst.any).2.1.cells.2.2.1
      clear hd
      go_simp
      exact ⟨hst.same 4 (by decide) (by decide), rfl⟩
    · clear hd
      go_simp
      exact ⟨hst.same 5 (by decide) (by decide), rfl⟩
    · clear hd
      go_simp
      exact ⟨hst.same 6 (by decide) (by decide), rfl⟩
    · have hc := (heap_cellR (HC.out W hst.any).2.2).1
      clear hd
      go_simp
      exact ⟨hst.same 7 (by decide) (by decide), rfl⟩
    · clear hd
      go_simp
      exact ⟨hst.same 8 (by decide) (by decide), rfl⟩
    · clear hd
      go_simp
      exact ⟨hst.same 9 (by decide) (by decide), rfl⟩
    · clear hd
      go_simp
      exact ⟨hst.same 10 (by decide) (by decide), rfl⟩
    · have d25 : us 25 = (.string y.f.name) := (hd ⟨5, .data⟩ (by simp) rfl).2
      have d26 : us 26 = (.int .i64 y.f.kind) := (hd ⟨6, .data⟩ (by simp) rfl).2
      have d27 : us 27 = (.agg #[.int .i64 2, .int .i64 k, .int .i64 g]) := (hd ⟨7, .data⟩ (by simp) rfl).2
      have d28 : us 28 = (.slice (some ⟨y.b1, 0, none⟩) y.f.sizes.length y.f.sizes.length) := (hd ⟨8, .data⟩ (by simp) rfl).2
      have d29 : us 29 = (.int .i64 y.f.cols) := (hd ⟨9, .data⟩ (by simp) rfl).2
      have d30 : us 30 = (.slice (some ⟨y.b2, 0, none⟩) y.f.levels.length y.f.levels.length) := (hd ⟨10, .data⟩ (by simp) rfl).2
      rw [HCC.out]
      clear hd
      go_simp
      exact ⟨hst.same 11 (by decide) (by decide), rfl⟩
    · have d31 : us 31 = (.agg C) := (hd ⟨11, .data⟩ (by simp) rfl).2
      have e0 : W = W0 := by
        rcases hst.2 with h | h | h
        · exact h.2
        · rw [h.1] at hL; cases hL
        · rw [hst.1 h.1] at hL; cases hL
      have e13 : L 13 = false := by
        cases h : L 13
        · rfl
        · rw [hst.1 h] at hL; cases hL
      subst e0
      clear hd
      rw [HCC.out] at d31
      go_simp
      rw [← HCC.out, ← HW1.out]
      exact ⟨⟨fun h => by simp [e13] at h, .inr (.inl ⟨by simp, by simp [e13], rfl⟩)⟩, rfl⟩
    · have d24 : us 24 = (v) := (hd ⟨4, .data⟩ (by simp) rfl).2
      have d32 : us 32 = (.slice (some ⟨W0.heap.size, 0, none⟩) 1 1) := (hd ⟨12, .data⟩ (by simp) rfl).2
      have l12 : L 12 = true := (hd ⟨12, .data⟩ (by simp) rfl).1
      have e0 : W = W1 := by
        rcases hst.2 with h | h | h
        · rw [h.1] at l12; cases l12
        · exact h.2.2
        · rw [h.1] at hL; cases hL
      subst e0
      clear hd
      exact append_leaves (.tmp 24) (.tmp 32) 141 rfl ((show _ = us 24 from rfl).trans d24) ((show _ = us 32 from rfl).trans d32) HR.out ⟨⟨fun _ => by simp [l12], .inr (.inr ⟨by simp, rfl⟩)⟩, trivial, rfl⟩
  · intro us W L hL hst hd
    have d20 : us 20 = .pointer (some ⟨b, 0, none⟩) := hd 0 (by simp)
    have d33 : us 33 = v9 := hd 13 (by simp)
    have e0 : W = w9 := by
      rcases hst.2 with h | h | h
      · rw [hL 12 (by simp)] at h; cases h.1
      · rw [hL 13 (by simp)] at h; cases h.2.1
      · exact h.2
    subst e0
    clear hd hL hst
    simp only [List.drop, List.length]
    rw [d20, d33]
    obtain ⟨g0, g1, -⟩ := HC.out W (.inr (.inr rfl))
    have G1 := Lib.hid g1
    have hc3 := g1.cells.2.2.1
    have hf3 := g1.cells.2.2.2.1 3
    clear g1
    obtain ⟨a9, c9, rfl⟩ := ho9.read
    go_wp2_with fail
    go_end0
    have hl9 : (xs ++ [y]).length = xs.length + 1 := by simp
    refine ⟨rfl, .slice a9 (xs.length + 1) c9, ?_, src_set G1.out 3 _, ((hB1.mono (Nat.zero_le _)).trans (hb9.mono (Nat.zero_le _))).setCell (Nat.zero_le _) _, ?_, ?_⟩
    · rw [hl9] at ho9
      exact Enc.Own.src ho9 hb (grownBy_set _ _ _ _)
    · have h1 := hgr.size
      have h2 := (grownBy_set W b 3 (.slice a9 (xs.length + 1) c9)).size
      omega
    · intro j hj hjb hjo
      exact (heap_setCell_other _ ⟨b, 3, none⟩ j _ (fun e => hjb e)).trans ((hgr.block j (by omega) (fun e => hjo e.symm)).trans (hB1.block j hj))

end Go.Proofs.YtlcglclojlffgaaGreatDoor
namespace Go.Proofs.YtlcglclojlffgaaGreatDoor
open Go.RowKit

/-- a binary field that may have generators or not -/
structure FdB (F : Fd) : Prop where
  bin : F.bin = true
  k3 : 3 ≤ F.k
  k8 : F.k ≤ 8
  fit : F.Fit
theorem FdB.q {F : Fd} (h : FdB F) : F.q = 2 ^ F.k := (h.fit.bin h.bin).1
theorem FdB.q_bd {F : Fd} (h : FdB F) : 8 ≤ F.q ∧ F.q ≤ 256 := by
  rw [h.q]
  exact ⟨Nat.pow_le_pow_right (n := 2) (by omega) h.k3, Nat.pow_le_pow_right (n := 2) (by omega) h.k8⟩
theorem FdB.g_bd {F : Fd} (h : FdB F) : F.g < 512 := by
  have h1 := (h.fit.bin h.bin).2.2
  have h2 : 2 ^ (F.k + 1) ≤ 2 ^ 9 := Nat.pow_le_pow_right (by omega) (by have := h.k8; omega)
  omega
/-- a field as a value -/
abbrev fV (F : Fd) : Value := .agg #[.int .i64 2, .int .i64 (F.k : Int), .int .i64 (F.g : Int)]
theorem bit_test (x m : Nat) (hx : x < 2 ^ 62) : (bits .and .i64 ((x : Int) / 2 ^ m) 1 == 1) = x.testBit m := by
  have e : ((x : Int) / 2 ^ m) = ((x / 2 ^ m : Nat) : Int) := by push_cast; rfl
  have h : x / 2 ^ m ≤ x := Nat.div_le_self _ _
  rw [e, Nat.testBit_eq_decide_div_mod_eq]
  generalize x / 2 ^ m = q at *
  rw [andOne _ (by omega) (by omega)]
  by_cases h1 : q % 2 = 1
  · rw [decide_eq_true h1, beq_iff_eq]; omega
  · rw [decide_eq_false h1, beq_eq_false_iff_ne]; omega
theorem shl_lt {a m n d : Nat} (ha : a < 2 ^ n) (hm : m ≤ d) : a <<< m < 2 ^ (n + d) := by
  rw [Nat.shiftLeft_eq]
  calc a * 2 ^ m < 2 ^ n * 2 ^ m := Nat.mul_lt_mul_of_pos_right ha (Nat.pow_pos (by omega))
    _ = 2 ^ (n + m) := (Nat.pow_add ..).symm
    _ ≤ 2 ^ (n + d) := Nat.pow_le_pow_right (by omega) (by omega)
theorem wrap_nat (q : Nat) (h : q < 2 ^ 62) : wrap64 (q : Int) = q := by unfold wrap64; omega
theorem shl_nat (a m : Nat) (h : a <<< m < 2 ^ 62) : wrap64 ((a : Int) * 2 ^ m) = ((a <<< m : Nat) : Int) := by
  have e : ((a : Int) * 2 ^ m) = ((a <<< m : Nat) : Int) := by rw [Nat.shiftLeft_eq]; push_cast; rfl
  rw [e]; exact wrap_nat _ h
/-- a number and a shift added: as the machine does it -/
theorem xor_shl (c a m : Nat) (hc : c < 2 ^ 20) (ha : a <<< m < 2 ^ 20) : ∃ y z : Nat, wrap64 ((a : Int) * 2 ^ m) = (y : Int) ∧ bits .xor .i64 (c : Int) (y : Int) = (z : Int) ∧ z = c ^^^ (a <<< m) ∧ z < 2 ^ 20 :=
  ⟨_, _, shl_nat a m (Nat.lt_trans ha (by decide)), xor64 c (a <<< m) (Nat.lt_trans hc (by decide)) (Nat.lt_trans ha (by decide)), rfl, Nat.xor_lt_two_pow hc ha⟩
theorem clm_lt {a b : Nat} (ha : a < 2 ^ 8) : ∀ {n : Nat}, n ≤ 8 → clm a b n < 2 ^ 16
  | 0, _ => by simp [clm]
  | n + 1, h => by
    rw [clm]
    refine Nat.xor_lt_two_pow (clm_lt ha (by omega)) ?_
    split
    · exact shl_lt (n := 8) (d := 8) ha (by omega)
    · decide
theorem pow_small {k : Nat} (h : k ≤ 8) : wrap64 (2 ^ k) = ((2 ^ k : Nat) : Int) := by
  have h1 : 2 ^ k ≤ 2 ^ 8 := Nat.pow_le_pow_right (n := 2) (by omega) h
  have e : (2 ^ k : Int) = ((2 ^ k : Nat) : Int) := by push_cast; rfl
  rw [e]; exact wrap_nat _ (Nat.lt_of_le_of_lt h1 (by decide))
set_option maxRecDepth 100000 in
set_option maxHeartbeats 1000000 in
theorem spSize_any (F : Fd) (h : FdB F) (w : World) :
    Calls Tryz.prog 122 #[fV F] w fun e w' => e = .returned (.int .i64 (F.q : Int)) ∧ Below w.heap.size w w' := by
  have hq := h.q
  have hk := h.k8
  have hk3 := h.k3
  rw [hq, ← pow_small hk]
  clear hq h
  go_enter Tryz.func122, Tryz.ntmps122
  go_wp2_with fail
  go_ret
  exact ⟨rfl, ba1 _ _⟩
set_option maxRecDepth 100000 in
set_option maxHeartbeats 1000000 in
theorem spMul_any (F : Fd) (h : FdB F) (a b : Nat) (ha : a < F.q) (hb : b < F.q) (w : World) :
    Calls Tryz.prog 133 #[fV F, .int .i64 (a : Int), .int .i64 (b : Int)] w fun e w' => e = .returned (.int .i64 (F.mulB a b : Nat)) ∧ Below w.heap.size w w' := by
  have hq := h.q_bd
  have hk := h.k8
  have hk3 := h.k3
  have hg := h.g_bd
  have H := Lib.hid h
  clear h
  obtain ⟨k, hke⟩ : ∃ k, k = F.k := ⟨_, rfl⟩
  obtain ⟨g, hge⟩ : ∃ g, g = F.g := ⟨_, rfl⟩
  have HK := Lib.hid hke
  have HG := Lib.hid hge
  rw [fV, ← hke, ← hge]
  rw [← hke] at hk hk3
  rw [← hge] at hg
  clear hke hge
  go_enter Tryz.func133, Tryz.ntmps133
  go_wp2_with fail
  have hx := push_at w (.cells #[.int .i64 2, .int .i64 (k : Int), .int .i64 (g : Int)] 121 (0, 0))
  have HB0 := Lib.hid (ba1 w (.cells #[.int .i64 2, .int .i64 (k : Int), .int .i64 (g : Int)] 121 (0, 0)))
  obtain ⟨w1, hw1⟩ : ∃ w1, w1 = w.alloc (.cells #[.int .i64 2, .int .i64 (k : Int), .int .i64 (g : Int)] 121 (0, 0)) := ⟨_, rfl⟩
  rw [← hw1] at hx HB0 ⊢
  obtain ⟨hcA, hfA⟩ := heap_cellR hx
  have hltA := blkLt hx
  clear hw1 hx
  go_loopw [7, 8] (fun o i wr => ∃ m : Nat, m ≤ k ∧ i = .int .i64 m ∧ o = .int .i64 (clm a b m : Nat) ∧ wr = w1) (fun _ i _ => k - (intOf i).toNat)
  case atStart => exact ⟨0, Nat.zero_le _, rfl, rfl, rfl⟩
  case round =>
    obtain ⟨m, hm, rfl, rfl, rfl⟩ := hrel
    by_cases hlt : m < k
    · have hmi : (m : Int) < (k : Int) := by omega
      have hbt := bit_test b m (by omega)
      obtain ⟨y, z, hsn, hxr, hz, -⟩ := xor_shl (clm a b m) a m (Nat.lt_trans (clm_lt (a := a) (b := b) (n := m) (by omega) (by omega)) (by decide)) (Nat.lt_trans (shl_lt (n := 8) (d := 8) (by omega) (by omega)) (by decide))
      have HST := Lib.hid (show clm a b (m + 1) = clm a b m ^^^ (if b.testBit m then a <<< m else 0) from rfl)
      have HZ := Lib.hid hz
      clear hz
      cases hc : b.testBit m with
      | true =>
        rw [hc] at hbt HST
        clear hc
        go_wp2_with fail
        exact ⟨⟨m + 1, by omega, by push_cast; rfl, by rw [HST.out, if_pos rfl, HZ.out], trivial⟩, by simp [intOf]; omega⟩
      | false =>
        rw [hc] at hbt HST
        clear hc
        go_wp2_with fail
        exact ⟨⟨m + 1, by omega, by push_cast; rfl, by rw [HST.out, if_neg (by simp), Nat.xor_zero], trivial⟩, by simp [intOf]; omega⟩
    · obtain rfl : m = k := by omega
      have hmi : ¬ (m : Int) < (m : Int) := by omega
      have hc0 : clm a b m < 2 ^ 16 := clm_lt (by omega) hk
      obtain ⟨c, hce⟩ : ∃ c, c = clm a b m := ⟨_, rfl⟩
      have HC := Lib.hid (show redN m g (m + 1) c = F.mulB a b by rw [hce, Fd.mulB, HK.out, HG.out])
      rw [← hce] at hc0 ⊢
      clear hce
      go_wp2_with fail
      go_loopw [7, 9] (fun o i wq => ∃ j x : Nat, i = .int .i64 j ∧ o = .int .i64 x ∧ m ≤ j + 1 ∧ j ≤ 2 * m ∧ x < 2 ^ 20 ∧ redN m g (j + 1 - m) x = F.mulB a b ∧ wq = wr) (fun _ i _ => (intOf i).toNat)
      case atStart => exact ⟨2 * m, c, by push_cast; rfl, rfl, by omega, Nat.le_refl _, Nat.lt_trans hc0 (by decide), by rw [show 2 * m + 1 - m = m + 1 by omega]; exact HC.out, rfl⟩
      case round =>
        obtain ⟨j, x, rfl, rfl, hj1, hj2, hx, hred, rfl⟩ := hrel
        have HR := Lib.hid hred
        clear hred
        by_cases hj : m ≤ j
        · have hji : (m : Int) ≤ (j : Int) := by omega
          have hbt := bit_test x j (Nat.lt_trans hx (by decide))
          obtain ⟨y, z, hsn, hxr, hz, hz2⟩ := xor_shl x g (j - m) hx (Nat.lt_of_lt_of_le (shl_lt (n := 9) (d := 8) hg (by omega)) (by decide))
          have hjm : (j : Int) - (m : Int) = ((j - m : Nat) : Int) := by omega
          have HST := Lib.hid (show redN m g (j + 1 - m) x = redN m g (j - m) (if x.testBit j then x ^^^ (g <<< (j - m)) else x) by
            rw [show j + 1 - m = (j - m) + 1 by omega, redN, rstep, show m + (j - m) = j by omega])
          have HZ := Lib.hid hz
          clear hz
          cases hc : x.testBit j with
          | true =>
            rw [hc] at hbt HST
            clear hc
            go_wp2_with fail
            exact ⟨⟨j - 1, z, by go_num, rfl, by omega, by omega, hz2, by rw [show j - 1 + 1 - m = j - m by omega, HZ.out]; rw [← HR.out, HST.out, if_pos rfl], trivial⟩, by simp [intOf]; omega⟩
          | false =>
            rw [hc] at hbt HST
            clear hc
            go_wp2_with fail
            exact ⟨⟨j - 1, x, by go_num, rfl, by omega, by omega, hx, by rw [show j - 1 + 1 - m = j - m by omega]; rw [← HR.out, HST.out, if_neg (by simp)], trivial⟩, by simp [intOf]; omega⟩
        · have hji : ¬ (m : Int) ≤ (j : Int) := by omega
          have HE := Lib.hid (show x = F.mulB a b by have h1 := HR.out; rwa [show j + 1 - m = 0 by omega] at h1)
          go_wp2_with fail
          go_ret
          exact ⟨by rw [← HE.out]; rfl, HB0.out⟩

end Go.Proofs.YtlcglclojlffgaaGreatDoor
namespace Go.Proofs.YtlcglclojlffgaaGreatDoor
open Go.RowKit

/-- a valid binary field -/
structure FdR (F : Fd) : Prop extends FdB F where
  runs : F.Runs
theorem FV.r {p k g : Int} {F : Fd} (h : FV p k g F) : FdR F := ⟨⟨h.ok.bin, h.ok.k3, h.ok.k8, h.ok.fit⟩, h.ok.runs⟩
theorem FV.v {p k g : Int} {F : Fd} (h : FV p k g F) : Value.agg #[.int .i64 p, .int .i64 k, .int .i64 g] = fV F := by rw [h.ok.p, h.ok.k, h.ok.g]
theorem spMulR_any (F : Fd) (h : FdB F) (a b : Nat) (ha : a < F.q) (hb : b < F.q) (w : World) :
    Calls Tryz.prog 133 #[fV F, .int .i64 (a : Int), .int .i64 (b : Int)] w fun e w' => e = .returned (.int .i64 (F.mul a b : Nat)) ∧ Below w.heap.size w w' := by
  rw [show F.mul a b = F.mulB a b by simp [Fd.mul, h.bin]]
  exact spMul_any F h a b ha hb w
end Go.Proofs.YtlcglclojlffgaaGreatDoor
namespace Go.Proofs.YtlcglclojlffgaaGreatDoor
open Go.RowKit

theorem mulB_two {F : Fd} (h : FdB F) {x : Nat} (hx : x < F.q) : F.mul x 2 = F.T x := by
  have hk := h.k3
  have e : ∀ n, clm x 2 (n + 2) = x <<< 1 := fun n => by
    induction n with
    | zero => simp [clm, Nat.testBit_succ]
    | succ n ih =>
      rw [show n + 1 + 2 = (n + 2) + 1 by omega, clm, ih, if_neg, Nat.xor_zero]
      rw [Nat.testBit_lt_two_pow (Nat.lt_of_lt_of_le (show 2 < 2 ^ 2 by decide) (Nat.pow_le_pow_right (by omega) (by omega)))]
      simp
  obtain ⟨m, hm⟩ : ∃ m, F.k = m + 2 := ⟨F.k - 2, by omega⟩
  have hlt : x <<< 1 < 2 ^ (F.k + 1) := by rw [Nat.shiftLeft_eq, Nat.pow_succ]; have := h.q; omega
  rw [Fd.mul, if_pos h.bin, Fd.mulB, T_bin F h.bin]
  have e2 : clm x 2 F.k = x <<< 1 := by
    have := e m
    rwa [← hm] at this
  rw [e2, show F.k + 1 = 1 + F.k by omega, redN_low' _ _ 1 _ hlt]
  rfl
theorem pw_one {F : Fd} (h : FdB F) : F.pw 1 = 2 := by
  have hk := h.k3
  show F.T 1 = 2
  rw [T_bin F h.bin, rstep, if_neg]
  · rfl
  · rw [Nat.testBit_lt_two_pow (Nat.lt_of_lt_of_le (show 1 <<< 1 < 2 ^ 3 by decide) (Nat.pow_le_pow_right (by omega) hk))]
    simp
theorem runs_end {F : Fd} (h : FdB F) {n : Nat} (h1 : 1 ≤ n) (hn : n ≤ F.q) (hall : ∀ i, i < n → F.pw i ≠ 0 ∧ (0 < i → F.pw i ≠ 1)) (hx : F.pw n = 1 ∨ F.pw n = 0 ∨ n = F.q) :
    decide F.Runs = (decide (F.pw n = 1) && decide (n = F.q - 1)) := by
  have hq := h.q_bd
  by_cases hr : F.Runs
  · rw [decide_eq_true hr]
    obtain ⟨r1, r2⟩ := hr
    have hnq : n ≠ F.q := fun e => (hall (F.q - 1) (by omega)).2 (by omega) r2
    have hn2 : n = F.q - 1 := by
      apply Classical.byContradiction
      intro hne
      have := r1 n (by omega)
      rcases hx with h2 | h2 | h2
      · exact this.2 (by omega) h2
      · exact this.1 h2
      · exact hnq h2
    rw [hn2, r2]; simp
  · rw [decide_eq_false hr]
    symm
    rw [Bool.and_eq_false_iff]
    by_cases hp : F.pw n = 1
    · right
      rw [decide_eq_false]
      rintro rfl
      exact hr ⟨hall, hp⟩
    · left; rw [decide_eq_false hp]
set_option maxRecDepth 100000 in
set_option maxHeartbeats 2000000 in
theorem spRuns_any (F : Fd) (h : FdB F) (w : World) :
    Calls Tryz.prog 120 #[fV F, .int .i64 2] w fun e w' => e = .returned (.bool (decide F.Runs)) ∧ Below w.heap.size w w' := by
  have hq := h.q_bd
  have H := Lib.hid h
  clear h
  obtain ⟨R, hR⟩ : ∃ R, R = decide F.Runs := ⟨_, rfl⟩
  have HR := Lib.hid hR
  rw [← hR]
  clear hR
  go_enter Tryz.func120, Tryz.ntmps120
  go_wp2_with fail
  have hx := push_at w (.cells #[.int .i64 2, .int .i64 (F.k : Int), .int .i64 (F.g : Int)] 121 (0, 0))
  have HB0 := Lib.hid (ba1 w (.cells #[.int .i64 2, .int .i64 (F.k : Int), .int .i64 (F.g : Int)] 121 (0, 0)))
  obtain ⟨w1, hw1⟩ : ∃ w1, w1 = w.alloc (.cells #[.int .i64 2, .int .i64 (F.k : Int), .int .i64 (F.g : Int)] 121 (0, 0)) := ⟨_, rfl⟩
  rw [← hw1] at hx HB0 ⊢
  have HX1 := Lib.hid hx
  clear hw1 hx
  go_loopw [5, 6] (fun x m wr => ∃ n : Nat, 1 ≤ n ∧ n ≤ F.q ∧ m = .int .i64 n ∧ x = .int .i64 (F.pw n : Nat) ∧ (∀ i, i < n → F.pw i ≠ 0 ∧ (0 < i → F.pw i ≠ 1)) ∧ wr.heap[w.heap.size]? = some (.cells #[.int .i64 2, .int .i64 (F.k : Int), .int .i64 (F.g : Int)] 121 (0, 0)) ∧ Below w.heap.size w wr) (fun _ m _ => F.q - (intOf m).toNat)
  case atStart => exact ⟨1, Nat.le_refl _, by omega, rfl, by rw [pw_one H.out]; rfl, fun i hi => by
      obtain rfl : i = 0 := by omega
      exact ⟨by simp [Fd.pw], fun h => absurd h (by omega)⟩, HX1.out, HB0.out⟩
  case round =>
    obtain ⟨n, hn1, hn2, rfl, rfl, hall, hx, hb⟩ := hrel
    have HALL := Lib.hid hall
    have HX := Lib.hid hx
    have HB := Lib.hid hb
    obtain ⟨hcA, hfA⟩ := heap_cellR HX.out
    have hltA := blkLt HX.out
    obtain ⟨x, hxe⟩ : ∃ x, x = F.pw n := ⟨_, rfl⟩
    have HXE := Lib.hid hxe
    have hxq : x < F.q := by rw [hxe]; exact Fd.pw_lt H.out.fit n
    rw [← hxe]
    clear hx hb hall hxe
    by_cases hx1 : x = 1
    · subst hx1
      have HE := Lib.hid (show R = decide (n = F.q - 1) by
        rw [HR.out, runs_end H.out hn1 hn2 HALL.out (.inl HXE.out.symm), ← HXE.out]; simp)
      go_wp2_with fail
      refine (spSize_any F H.out wr).mono ?_
      rintro e w2 ⟨rfl, hb2⟩
      have HB2 := Lib.hid (bt0 HB.out hb2 (Nat.le_refl _))
      clear hb2
      go_wp2_with fail
      go_ret
      exact ⟨by rw [HE.out]; exact ret_bool (by rw [Bool.eq_iff_iff, beq_iff_eq, decide_eq_true_eq]; omega), HB2.out⟩
    · have hx1b : ((x : Int) != 1) = true := by rw [bne_iff_ne]; omega
      have hx1c : ((x : Int) == 1) = false := by rw [beq_eq_false_iff_ne]; omega
      by_cases hx0 : x = 0
      · have HE := Lib.hid (show R = false by
          rw [HR.out, runs_end H.out hn1 hn2 HALL.out (.inr (.inl (by rw [← HXE.out, hx0]))), ← HXE.out, decide_eq_false hx1]; rfl)
        have hx0b : ((x : Int) != 0) = false := by rw [bne_eq_false_iff_eq]; omega
        go_wp2_with fail
        go_ret
        exact ⟨by rw [HE.out]; rfl, HB.out⟩
      · have hx0b : ((x : Int) != 0) = true := by rw [bne_iff_ne]; omega
        go_wp2_with fail
        refine (spSize_any F H.out wr).mono ?_
        rintro e w2 ⟨rfl, hb2⟩
        have HX2 := Lib.hid (blkK hb2 HX.out)
        have HB2 := Lib.hid (bt0 HB.out hb2 (Nat.le_refl _))
        clear hb2 hcA hfA hltA
        by_cases hnq : n = F.q
        · have HE := Lib.hid (show R = false by
            rw [HR.out, runs_end H.out hn1 hn2 HALL.out (.inr (.inr hnq)), ← HXE.out, decide_eq_false hx1]; rfl)
          have hni : ¬ (n : Int) < (F.q : Int) := by omega
          go_wp2_with fail
          go_ret
          exact ⟨by rw [HE.out]; rfl, HB2.out⟩
        · have hni : (n : Int) < (F.q : Int) := by omega
          obtain ⟨hcA, hfA⟩ := heap_cellR HX2.out
          have hltA := blkLt HX2.out
          go_wp2_with fail
          refine (spMulR_any F H.out x 2 hxq (by omega) w2).mono ?_
          rintro e w3 ⟨rfl, hb3⟩
          have HX3 := Lib.hid (blkK hb3 HX2.out)
          have HB3 := Lib.hid (bt0 HB2.out hb3 (Nat.le_refl _))
          have HM := Lib.hid (show F.mul x 2 = F.pw (n + 1) by rw [mulB_two H.out hxq, HXE.out]; rfl)
          clear hb3
          go_wp2_with fail
          refine ⟨⟨n + 1, by omega, by omega, by push_cast; rfl, by rw [HM.out], fun i hi => ?_, HX3.out, HB3.out⟩, by simp [intOf]; omega⟩
          rcases Nat.lt_or_eq_of_le (show i ≤ n by omega) with h1 | rfl
          · exact HALL.out i h1
          · rw [← HXE.out]; exact ⟨hx0, fun _ => hx1⟩

end Go.Proofs.YtlcglclojlffgaaGreatDoor
namespace Go.Proofs.YtlcglclojlffgaaGreatDoor
open Go.RowKit

/-- a field of power 1, in two numbers -/
abbrev gV (p g : Int) : Value := .agg #[.int .i64 p, .int .i64 1, .int .i64 g]
theorem spIn_any (n lo hi : Int) (w : World) :
    Calls Tryz.prog 44 #[.int .i64 n, .int .i64 lo, .int .i64 hi] w fun e w' => e = .returned (.bool (inB n lo hi)) ∧ w = w' := by
  rw [inB]
  by_cases h1 : lo ≤ n
  · by_cases h2 : n ≤ hi
    · rw [decide_eq_true ⟨h1, h2⟩]
      go_enter Tryz.func44, Tryz.ntmps44
      go_wp2_with fail
      go_ret
      exact ⟨rfl, rfl⟩
    · rw [decide_eq_false (fun h => h2 h.2)]
      go_enter Tryz.func44, Tryz.ntmps44
      go_wp2_with fail
      go_ret
      exact ⟨rfl, rfl⟩
  · rw [decide_eq_false (fun h => h1 h.1)]
    go_enter Tryz.func44, Tryz.ntmps44
    go_wp2_with fail
    go_ret
    exact ⟨rfl, rfl⟩
theorem spSize1_any (p g : Int) (w : World) :
    Calls Tryz.prog 122 #[gV p g] w fun e w' => e = .returned (.int .i64 p) ∧ Below w.heap.size w w' := by
  go_enter Tryz.func122, Tryz.ntmps122
  go_wp2_with fail
  go_ret
  exact ⟨rfl, ba1 _ _⟩
theorem spMul1_any (p g x y : Int) (hp : 2 ≤ p) (hp2 : p ≤ 1021) (hx : 0 ≤ x ∧ x ≤ 1021) (hy : 0 ≤ y ∧ y ≤ 1021) (w : World) :
    Calls Tryz.prog 133 #[gV p g, .int .i64 x, .int .i64 y] w fun e w' => (∃ z : Int, 0 ≤ z ∧ z < p ∧ e = .returned (.int .i64 z)) ∧ Below w.heap.size w w' := by
  have h1 : 0 ≤ x * y := Int.mul_nonneg hx.1 hy.1
  have h2 : x * y ≤ 1021 * 1021 := Int.mul_le_mul hx.2 hy.2 hy.1 (by omega)
  obtain ⟨m, hm⟩ : ∃ m, m = x * y := ⟨_, rfl⟩
  rw [← hm] at h1 h2
  have hw : IntKind.i64.wrap (x * y) = m := by rw [← hm, IntKind.wrap_i64]; omega
  have hw2 : wrap64 (x * y) = m := by rw [← hm]; unfold wrap64; omega
  have hr1 : 0 ≤ m % p := Int.emod_nonneg _ (by omega)
  have hr2 : m % p < p := Int.emod_lt_of_pos _ (by omega)
  clear hm
  go_enter Tryz.func133, Tryz.ntmps133
  go_wp2_with fail
  go_ret
  exact ⟨⟨m % p, hr1, hr2, rfl⟩, ba1 _ _⟩
set_option maxRecDepth 100000 in
set_option maxHeartbeats 1000000 in
theorem spPrime_any (n : Int) (h1 : 3 ≤ n) (h2 : n ≤ 1021) (w : World) :
    Calls Tryz.prog 119 #[.int .i64 n] w fun e w' => (∃ b, e = .returned (.bool b)) ∧ w = w' := by
  go_enter Tryz.func119, Tryz.ntmps119
  go_wp2_with fail
  go_loopw [3] (fun i wr => ∃ d : Nat, 2 ≤ d ∧ d ≤ 40 ∧ i = .int .i64 d ∧ wr = w) (fun i _ => 41 - (intOf i).toNat)
  case atStart => exact ⟨2, by omega, by omega, rfl, rfl⟩
  case round =>
    obtain ⟨d, hd1, hd2, rfl, rfl⟩ := hrel
    have hm : (d : Int) * (d : Int) = ((d * d : Nat) : Int) := by push_cast; rfl
    obtain ⟨q, hq⟩ : ∃ q, q = d * d := ⟨_, rfl⟩
    rw [← hq] at hm
    have hqb : q ≤ 1600 := by rw [hq]; exact Nat.mul_le_mul hd2 hd2
    have hd33 : (q : Int) ≤ n → d < 40 := fun h => by
      apply Classical.byContradiction
      intro hc
      have : d = 40 := by omega
      subst this
      omega
    clear hq
    by_cases hle : (q : Int) ≤ n
    · have hd := hd33 hle
      obtain ⟨r, hr⟩ : ∃ r, r = n % (d : Int) := ⟨_, rfl⟩
      by_cases hz : r = 0
      · have hz2 : n % (d : Int) = 0 := by rw [← hr, hz]
        clear hr hz
        go_wp2_with fail
        go_ret
        exact ⟨⟨_, rfl⟩, rfl⟩
      · have hz2 : ¬ n % (d : Int) = 0 := by rw [← hr]; exact hz
        clear hr hz
        go_wp2_with fail
        exact ⟨⟨d + 1, by omega, by omega, by push_cast; rfl, trivial⟩, by simp [intOf]; omega⟩
    · have h22 : 2 ≤ n := by omega
      go_wp2_with fail
      go_ret
      exact ⟨.inr rfl, rfl⟩

set_option maxRecDepth 100000 in
set_option maxHeartbeats 2000000 in
theorem spRuns1_any (p g x : Int) (hp : 3 ≤ p) (hp2 : p ≤ 1021) (hx : 0 ≤ x ∧ x ≤ 1021) (w : World) :
    Calls Tryz.prog 120 #[gV p g, .int .i64 x] w fun e w' => (∃ b, e = .returned (.bool b)) ∧ Below w.heap.size w w' := by
  go_enter Tryz.func120, Tryz.ntmps120
  go_wp2_with fail
  have hz := push_at w (.cells #[.int .i64 p, .int .i64 1, .int .i64 g] 121 (0, 0))
  have HB0 := Lib.hid (ba1 w (.cells #[.int .i64 p, .int .i64 1, .int .i64 g] 121 (0, 0)))
  obtain ⟨w1, hw1⟩ : ∃ w1, w1 = w.alloc (.cells #[.int .i64 p, .int .i64 1, .int .i64 g] 121 (0, 0)) := ⟨_, rfl⟩
  rw [← hw1] at hz HB0 ⊢
  have HX1 := Lib.hid hz
  clear hw1 hz
  go_loopw [5, 6] (fun y m wr => ∃ (n : Nat) (z : Int), 1 ≤ n ∧ n ≤ 1022 ∧ m = .int .i64 n ∧ y = .int .i64 z ∧ (0 ≤ z ∧ z ≤ 1021) ∧ wr.heap[w.heap.size]? = some (.cells #[.int .i64 p, .int .i64 1, .int .i64 g] 121 (0, 0)) ∧ Below w.heap.size w wr) (fun _ m _ => 1023 - (intOf m).toNat)
  case atStart => exact ⟨1, x, Nat.le_refl _, by omega, rfl, rfl, hx, HX1.out, HB0.out⟩
  case round =>
    obtain ⟨n, z, hn1, hn2, rfl, rfl, hzb, hx', hb⟩ := hrel
    have HX := Lib.hid hx'
    have HB := Lib.hid hb
    obtain ⟨hcA, hfA⟩ := heap_cellR HX.out
    have hltA := blkLt HX.out
    clear hx' hb
    by_cases hz1 : z = 1
    · subst hz1
      go_wp2_with fail
      refine (spSize1_any p g wr).mono ?_
      rintro e w2 ⟨rfl, hb2⟩
      have HB2 := Lib.hid (bt0 HB.out hb2 (Nat.le_refl _))
      clear hb2
      go_wp2_with fail
      go_ret
      exact ⟨⟨_, rfl⟩, HB2.out⟩
    · have hx1b : (z != 1) = true := by rw [bne_iff_ne]; exact hz1
      have hx1c : (z == 1) = false := by rw [beq_eq_false_iff_ne]; exact hz1
      by_cases hz0 : z = 0
      · subst hz0
        clear hx1b hx1c
        go_wp2_with fail
        go_ret
        exact ⟨⟨_, rfl⟩, HB.out⟩
      · have hx0b : (z != 0) = true := by rw [bne_iff_ne]; exact hz0
        go_wp2_with fail
        refine (spSize1_any p g wr).mono ?_
        rintro e w2 ⟨rfl, hb2⟩
        have HX2 := Lib.hid (blkK hb2 HX.out)
        have HB2 := Lib.hid (bt0 HB.out hb2 (Nat.le_refl _))
        clear hb2 hcA hfA hltA
        by_cases hni : (n : Int) < p
        · obtain ⟨hcA, hfA⟩ := heap_cellR HX2.out
          have hltA := blkLt HX2.out
          go_wp2_with fail
          refine (spMul1_any p g z x (by omega) hp2 hzb hx w2).mono ?_
          rintro e w3 ⟨⟨z2, hz21, hz22, rfl⟩, hb3⟩
          have HX3 := Lib.hid (blkK hb3 HX2.out)
          have HB3 := Lib.hid (bt0 HB2.out hb3 (Nat.le_refl _))
          clear hb3
          go_wp2_with fail
          exact ⟨⟨n + 1, z2, by omega, by omega, by push_cast; rfl, rfl, ⟨hz21, by omega⟩, HX3.out, HB3.out⟩, by simp [intOf]; omega⟩
        · go_wp2_with fail
          go_ret
          exact ⟨⟨_, rfl⟩, HB2.out⟩

end Go.Proofs.YtlcglclojlffgaaGreatDoor
namespace Go.Proofs.YtlcglclojlffgaaGreatDoor
open Go.RowKit

/-- the reference says whether a field is valid: exactly so for a field whose power is not 1 -/
def RetFld (p k g : Int) (w : World) (e : Ending) (w' : World) : Prop := ∃ b, e = .returned (.bool b) ∧ (k ≠ 1 → b = fldB p k g) ∧ (k = 1 → b = true → 3 ≤ p) ∧ Below w.heap.size w w'
theorem retFld_no {p k g : Int} {w w' : World} (hb : Below w.heap.size w w') (h : fldB p k g = false) : RetFld p k g w (.returned (.bool false)) w' := ⟨false, rfl, fun _ => h.symm, fun _ e => (by cases e), hb⟩
theorem retFld_1 {p g : Int} {w w' : World} {b : Bool} (hb : Below w.heap.size w w') (h : 3 ≤ p) : RetFld p 1 g w (.returned (.bool b)) w' := ⟨b, rfl, fun e => absurd rfl e, fun _ _ => h, hb⟩
theorem fldB_1 (p g : Int) : fldB p 1 g = false := by simp [fldB]
set_option maxRecDepth 100000 in
set_option maxHeartbeats 2000000 in
theorem spField1_any (p g : Int) (w : World) :
    Calls Tryz.prog 105 #[gV p g] w (RetFld p 1 g w) := by
  have HN := Lib.hid (fldB_1 p g)
  go_enter Tryz.func105, Tryz.ntmps105
  go_wp2_with fail
  have hz := push_at w (.cells #[.int .i64 p, .int .i64 1, .int .i64 g] 121 (0, 0))
  have HB0 := Lib.hid (ba1 w (.cells #[.int .i64 p, .int .i64 1, .int .i64 g] 121 (0, 0)))
  obtain ⟨w1, hw1⟩ : ∃ w1, w1 = w.alloc (.cells #[.int .i64 p, .int .i64 1, .int .i64 g] 121 (0, 0)) := ⟨_, rfl⟩
  rw [← hw1] at hz HB0 ⊢
  have HX1 := Lib.hid hz
  obtain ⟨hcA, hfA⟩ := heap_cellR hz
  have hltA := blkLt hz
  clear hw1 hz
  refine (spIn_any p 3 1021 w1).mono ?_
  rintro e w2 ⟨rfl, rfl⟩
  by_cases h1 : 3 ≤ p ∧ p ≤ 1021
  · rw [inB, decide_eq_true h1]
    go_wp2_with fail
    refine (spPrime_any p h1.1 h1.2 w1).mono ?_
    rintro e w2 ⟨⟨b1, rfl⟩, rfl⟩
    cases b1 with
    | false =>
      go_wp2_with fail
      go_ret
      exact retFld_no HB0.out HN.out
    | true =>
      have hw : wrap64 (p - 1) = p - 1 := by unfold wrap64; omega
      go_wp2_with fail
      refine (spIn_any g 1 (p - 1) w1).mono ?_
      rintro e w2 ⟨rfl, rfl⟩
      by_cases h2 : 1 ≤ g ∧ g ≤ p - 1
      · rw [inB, decide_eq_true h2]
        obtain ⟨h21, h22⟩ := h2
        obtain ⟨h11, h12⟩ := h1
        clear hw
        go_wp2_with fail
        clear hcA hfA hltA
        go_loopw [3] (fun i wr => ∃ d : Int, 1 ≤ d ∧ d ≤ g ∧ i = .int .i64 d ∧ wr.heap[w.heap.size]? = some (.cells #[.int .i64 p, .int .i64 1, .int .i64 g] 121 (0, 0)) ∧ Below w.heap.size w wr) (fun i _ => (g - intOf i).toNat)
        case atStart => exact ⟨1, Int.le_refl _, h21, rfl, HX1.out, HB0.out⟩
        case round =>
          obtain ⟨d, hd1, hd2, rfl, hx', hb⟩ := hrel
          have HX := Lib.hid hx'
          have HB := Lib.hid hb
          obtain ⟨hcA, hfA⟩ := heap_cellR HX.out
          have hltA := blkLt HX.out
          clear hx' hb
          by_cases hdg : d < g
          · go_wp2_with fail
            refine (spRuns1_any p g d h11 h12 (by omega) wr).mono ?_
            rintro e w2 ⟨⟨b2, rfl⟩, hb2⟩
            have HX2 := Lib.hid (blkK hb2 HX.out)
            have HB2 := Lib.hid (bt0 HB.out hb2 (Nat.le_refl _))
            clear hb2 hcA hfA hltA
            cases b2 with
            | true =>
              go_wp2_with fail
              go_ret
              exact retFld_no HB2.out HN.out
            | false =>
              go_wp2_with fail
              exact ⟨⟨d + 1, by omega, by omega, rfl, HX2.out, HB2.out⟩, by simp [intOf]; omega⟩
          · go_wp2_with fail
            refine (spRuns1_any p g g h11 h12 (by omega) wr).mono ?_
            rintro e w2 ⟨⟨b2, rfl⟩, hb2⟩
            have HB2 := Lib.hid (bt0 HB.out hb2 (Nat.le_refl _))
            clear hb2
            go_wp2_with fail
            go_ret
            exact retFld_1 HB2.out h11
      · rw [inB, decide_eq_false h2]
        clear hw
        go_wp2_with fail
        go_ret
        exact retFld_no HB0.out HN.out
  · rw [inB, decide_eq_false h1]
    go_wp2_with fail
    go_ret
    exact retFld_no HB0.out HN.out

/-- the field that the numbers say, when they lie as they should -/
theorem fdB_of {k g : Int} (hk : 3 ≤ k ∧ k ≤ 8) (hg : ((2 ^ k.toNat : Nat) : Int) ≤ g ∧ g ≤ ((2 * 2 ^ k.toNat : Nat) : Int) - 1) : FdB (bF k.toNat g.toNat) := by
  have h8 : 2 ^ 3 ≤ 2 ^ k.toNat := Nat.pow_le_pow_right (by omega) (by omega)
  refine ⟨rfl, ?_, ?_, ⟨?_, ?_, ?_⟩⟩
  · show 3 ≤ k.toNat; omega
  · show k.toNat ≤ 8; omega
  · show 3 ≤ 2 ^ k.toNat; omega
  · intro _
    refine ⟨rfl, ?_, ?_⟩
    · show 2 ^ k.toNat ≤ g.toNat; omega
    · show g.toNat < 2 ^ (k.toNat + 1); rw [Nat.pow_succ]; omega
  · intro h; cases h
theorem pow_small2 {k : Nat} (h : k ≤ 8) : wrap64 (2 * 2 ^ k) = 2 * ((2 ^ k : Nat) : Int) := by
  have h1 : 2 ^ k ≤ 2 ^ 8 := Nat.pow_le_pow_right (n := 2) (by omega) h
  have e : (2 ^ k : Int) = ((2 ^ k : Nat) : Int) := by push_cast; rfl
  rw [e]
  generalize 2 ^ k = q at *
  unfold wrap64; omega
set_option maxRecDepth 100000 in
set_option maxHeartbeats 2000000 in
theorem spField2_any (p k g : Int) (hk1 : k ≠ 1) (w : World) :
    Calls Tryz.prog 105 #[.agg #[.int .i64 p, .int .i64 k, .int .i64 g]] w (RetFld p k g w) := by
  by_cases hp : p = 2
  · subst hp
    by_cases hk : 3 ≤ k ∧ k ≤ 8
    · obtain ⟨n, rfl⟩ : ∃ n : Nat, k = n := ⟨k.toNat, by omega⟩
      have hn8 : n ≤ 8 := by omega
      have hw1 := pow_small hn8
      have hw2 := pow_small2 hn8
      obtain ⟨q, hq⟩ : ∃ q, q = 2 ^ n := ⟨_, rfl⟩
      have HQ := Lib.hid hq
      have hq8 : q ≤ 256 := by rw [hq]; exact Nat.le_trans (Nat.pow_le_pow_right (n := 2) (by omega) hn8) (by decide)
      rw [← hq] at hw1 hw2
      clear hq
      have hw3 : wrap64 (2 * (q : Int) - 1) = 2 * (q : Int) - 1 := by unfold wrap64; omega
      go_enter Tryz.func105, Tryz.ntmps105
      go_wp2_with fail
      have hz := push_at w (.cells #[.int .i64 2, .int .i64 (n : Int), .int .i64 g] 121 (0, 0))
      have HB0 := Lib.hid (ba1 w (.cells #[.int .i64 2, .int .i64 (n : Int), .int .i64 g] 121 (0, 0)))
      obtain ⟨w1, hw1'⟩ : ∃ w1, w1 = w.alloc (.cells #[.int .i64 2, .int .i64 (n : Int), .int .i64 g] 121 (0, 0)) := ⟨_, rfl⟩
      rw [← hw1'] at hz HB0 ⊢
      obtain ⟨hcA, hfA⟩ := heap_cellR hz
      have hltA := blkLt hz
      clear hw1' hz
      refine (spIn_any n 3 8 w1).mono ?_
      rintro e w2 ⟨rfl, rfl⟩
      rw [inB, decide_eq_true hk]
      go_wp2_with fail
      refine (spIn_any g q (2 * q - 1) w1).mono ?_
      rintro e w2 ⟨rfl, rfl⟩
      by_cases hg : (q : Int) ≤ g ∧ g ≤ 2 * q - 1
      · rw [inB, decide_eq_true hg]
        have hfd : FdB (bF n g.toNat) := by
          have h1 := fdB_of (k := (n : Int)) (g := g) hk (by
            have h2 := HQ.out
            rw [show ((n : Int)).toNat = n from rfl]
            generalize 2 ^ n = z at *
            omega)
          exact h1
        have HFD := Lib.hid hfd
        have HRS := Lib.hid (show fldB 2 n g = decide (bF n g.toNat).Runs by
          have h2 := HQ.out
          unfold fldB
          rw [show ((n : Int)).toNat = n from rfl, ← h2, decide_eq_true hk.1, decide_eq_true hk.2, decide_eq_true hg.1, decide_eq_true (show g < ((2 * q : Nat) : Int) by omega)]
          rfl)
        have hgn : ((g.toNat : Nat) : Int) = g := by omega
        have hcall := spRuns_any (bF n g.toNat) hfd w1
        rw [fV, show (bF n g.toNat).k = n from rfl, show (bF n g.toNat).g = g.toNat from rfl, hgn] at hcall
        have HC := Lib.hid hcall
        clear hcall hfd hgn hw1 hw2 hw3
        go_wp2_with fail
        refine HC.out.mono ?_
        rintro e w2 ⟨rfl, hb2⟩
        have HB2 := Lib.hid (bt0 HB0.out hb2 (Nat.le_refl _))
        clear hb2
        obtain ⟨R, hR⟩ : ∃ R, R = decide (bF n g.toNat).Runs := ⟨_, rfl⟩
        rw [← hR] at HRS ⊢
        clear hR
        go_wp2_with fail
        go_ret
        exact ⟨R, rfl, fun _ => HRS.out.symm, fun e => absurd e hk1, HB2.out⟩
      · rw [inB, decide_eq_false hg]
        have HN := Lib.hid (show fldB 2 n g = false by
          have h2 := HQ.out
          cases hb : fldB 2 n g with
          | false => rfl
          | true =>
            simp only [fldB, Bool.and_eq_true, decide_eq_true_eq] at hb
            rw [show ((n : Int)).toNat = n from rfl, ← h2] at hb
            exact absurd ⟨hb.1.1.2, by have := hb.1.2; omega⟩ hg)
        clear hw1 hw2 hw3
        go_wp2_with fail
        go_ret
        exact retFld_no HB0.out HN.out
    · have HN := Lib.hid (show fldB 2 k g = false by
        cases hb : fldB 2 k g with
        | false => rfl
        | true =>
          simp only [fldB, Bool.and_eq_true, decide_eq_true_eq] at hb
          exact absurd ⟨hb.1.1.1.1.2, hb.1.1.1.2⟩ hk)
      have hk1b : (k == 1) = false := by rw [beq_eq_false_iff_ne]; exact hk1
      go_enter Tryz.func105, Tryz.ntmps105
      go_wp2_with fail
      refine (spIn_any k 3 8 _).mono ?_
      rintro e w2 ⟨rfl, rfl⟩
      rw [inB, decide_eq_false hk]
      go_wp2_with fail
      go_ret
      exact retFld_no (ba1 _ _) HN.out
  · have HN := Lib.hid (show fldB p k g = false by simp [fldB, hp])
    have hk1b : (k == 1) = false := by rw [beq_eq_false_iff_ne]; exact hk1
    have hpb : (p != 2) = true := by rw [bne_iff_ne]; exact hp
    go_enter Tryz.func105, Tryz.ntmps105
    go_wp2_with fail
    go_ret
    exact retFld_no (ba1 _ _) HN.out

theorem spField_any (p k g : Int) (w : World) :
    Calls Tryz.prog 105 #[.agg #[.int .i64 p, .int .i64 k, .int .i64 g]] w (RetFld p k g w) := by
  by_cases h : k = 1
  · subst h; exact spField1_any p g w
  · exact spField2_any p k g h w
/-- the reference says yes to a valid binary field -/
theorem spField_yes {p k g : Int} (h : fldB p k g = true) (w : World) :
    Calls Tryz.prog 105 #[.agg #[.int .i64 p, .int .i64 k, .int .i64 g]] w fun e w' => e = .returned (.bool true) ∧ Below w.heap.size w w' := by
  refine (spField_any p k g w).mono ?_
  rintro e w' ⟨b, rfl, h1, -, hb⟩
  have hk : k ≠ 1 := fun e => by rw [e, fldB_1] at h; cases h
  rw [h1 hk, h]
  exact ⟨rfl, hb⟩

end Go.Proofs.YtlcglclojlffgaaGreatDoor
namespace Go.Proofs.YtlcglclojlffgaaGreatDoor
open Go.RowKit

set_option maxRecDepth 100000 in
theorem spPrime_32 (w : World) :
    Calls Tryz.prog 119 #[.int .i64 32] w fun e w' => e = .returned (.bool false) ∧ w = w' := by
  go_enter Tryz.func119, Tryz.ntmps119
  go_wp2_with fail
  go_loopw [3] (fun i wr => i = .int .i64 2 ∧ wr = w) (fun i _ => (intOf i).toNat)
  case atStart => exact ⟨rfl, rfl⟩
  case round =>
    obtain ⟨rfl, rfl⟩ := hrel
    go_wp2_with fail
    go_ret
    exact ⟨rfl, rfl⟩
theorem spField_bin (p k g : Int) (hk : k ≠ 1) (w : World) :
    Calls Tryz.prog 105 #[.agg #[.int .i64 p, .int .i64 k, .int .i64 g]] w fun e w' => e = .returned (.bool (fldB p k g)) ∧ Below w.heap.size w w' := by
  refine (spField_any p k g w).mono ?_
  rintro e w' ⟨b, rfl, h1, -, hb⟩
  rw [h1 hk]
  exact ⟨rfl, hb⟩
set_option maxRecDepth 100000 in
set_option maxHeartbeats 1000000 in
theorem spFieldOf_32 (w : World) :
    Calls Tryz.prog 103 #[.int .i64 32] w fun e w' => e = .returned (.tuple #[.agg #[.int .i64 2, .int .i64 5, .int .i64 37], .int .i64 0]) ∧ Below w.heap.size w w' := by
  go_enter Tryz.func103, Tryz.ntmps103
  go_wp2_with fail
  have hz := push_at w (.cells #[.int .i64 0, .int .i64 0, .int .i64 0] 121 (0, 0))
  have HB0 := Lib.hid (ba1 w (.cells #[.int .i64 0, .int .i64 0, .int .i64 0] 121 (0, 0)))
  obtain ⟨w1, hw1⟩ : ∃ w1, w1 = w.alloc (.cells #[.int .i64 0, .int .i64 0, .int .i64 0] 121 (0, 0)) := ⟨_, rfl⟩
  rw [← hw1] at hz HB0 ⊢
  have HX1 := Lib.hid hz
  clear hw1 hz
  refine (spIn_any 32 3 1021 w1).mono ?_
  rintro e w2 ⟨rfl, rfl⟩
  rw [show inB 32 3 1021 = true from rfl]
  go_wp2_with fail
  refine (spPrime_32 w1).mono ?_
  rintro e w2 ⟨rfl, rfl⟩
  go_wp2_with fail
  go_loopw [3, 6, 7, 8] (fun _ i _ _ wr => ∃ q : Nat, 3 ≤ q ∧ q ≤ 5 ∧ i = .int .i64 q ∧ wr = w1) (fun _ i _ _ _ => 6 - (intOf i).toNat)
  case atStart => exact ⟨3, by omega, by omega, rfl, rfl⟩
  case round =>
    obtain ⟨q, hq1, hq2, rfl, rfl⟩ := hrel
    by_cases hq : q = 5
    · subst hq
      rw [show ((5 : Nat) : Int) = (5 : Int) from rfl]
      obtain ⟨-, -, hg1, -, ht, hl⟩ := least5
      have HL := Lib.hid hl
      have HT := Lib.hid ht
      have hlt0 := blkLt HX1.out
      obtain ⟨W, hW⟩ : ∃ W : World, W = wr := ⟨_, rfl⟩
      subst hW
      clear hl ht hg1
      go_wp2_with fail
      go_loopw [3, 7, 8] (fun _ p _ wq => ∃ d : Nat, 32 ≤ d ∧ d ≤ 37 ∧ p = .int .i64 d ∧ Below W.heap.size W wq) (fun _ p _ _ => 38 - (intOf p).toNat)
      case atStart => exact ⟨32, by omega, by omega, rfl, Below.refl _ _⟩
      case round =>
        obtain ⟨d, hd1, hd2, rfl, hb2⟩ := hrel
        have HB := Lib.hid hb2
        have hlt2 : (d : Int) < 64 := by omega
        clear hb2
        by_cases hpg : d < 37
        · have HF := Lib.hid (show fldB 2 5 (d : Int) = false from HL.out d hd1 hpg)
          go_wp2_with fail
          refine (spField_bin _ _ _ (by decide) _).mono ?_
          rw [HF.out]
          rintro e w2 ⟨rfl, hb3⟩
          have HB2 := Lib.hid (bt0 HB.out (bt1 hb3) (Nat.le_refl _))
          clear hb3
          go_wp2_with fail
          exact ⟨⟨d + 1, by omega, by omega, by push_cast; rfl, HB2.out⟩, by simp [intOf]; omega⟩
        · obtain rfl : d = 37 := by omega
          go_wp2_with fail
          refine (spField_bin _ _ _ (by decide) _).mono ?_
          rw [show fldB 2 5 37 = true from HT.out]
          rintro e w2 ⟨rfl, hb3⟩
          obtain ⟨hx, hf⟩ := heap_cellR (blkK hb3 (push_at wr (.cells #[.int .i64 2, .int .i64 5, .int .i64 37] 121 (0, 0))))
          have HB2 := Lib.hid (bt0 HB.out (bt1 hb3) (Nat.le_refl _))
          obtain ⟨hr0, hf0⟩ := heap_cellR (blk HB2.out HX1.out hlt0)
          clear hb3
          go_wp2_with fail
          refine bodyPost_ret (v := .tuple #[.agg #[.int .i64 2, .int .i64 5, .int .i64 37], .int .i64 0]) (by simp [results, Tryz.results103, go_sem, hr0]) rfl ⟨rfl, ?_⟩
          iterate 3 (refine Below.setCell ?_ (by dsimp only; omega) _)
          exact HB0.out.trans (HB2.out.mono HB0.out.size)
    · have hq34 : q = 3 ∨ q = 4 := by omega
      rcases hq34 with rfl | rfl
      · go_wp2_with fail
        exact ⟨⟨4, by omega, by omega, rfl, trivial⟩, by simp [intOf]⟩
      · go_wp2_with fail
        exact ⟨⟨5, by omega, by omega, rfl, trivial⟩, by simp [intOf]⟩

end Go.Proofs.YtlcglclojlffgaaGreatDoor
namespace Go.Proofs.YtlcglclojlffgaaGreatDoor
open Go.RowKit

set_option maxRecDepth 100000 in
theorem least4 : Least 4 19 := by
  refine ⟨by decide, by decide, by decide, by decide, by decide +kernel, fun p h1 h2 => ?_⟩
  have h3 : p = 16 ∨ p = 17 ∨ p = 18 := by omega
  rcases h3 with rfl | rfl | rfl <;> decide +kernel
set_option maxRecDepth 100000 in
theorem least6 : Least 6 67 := by
  refine ⟨by decide, by decide, by decide, by decide, by decide +kernel, fun p h1 h2 => ?_⟩
  have h3 : p = 64 ∨ p = 65 ∨ p = 66 := by omega
  rcases h3 with rfl | rfl | rfl <;> decide +kernel
set_option maxRecDepth 100000 in
theorem least8_below : ∀ j : Fin 29, fldB 2 8 ((256 + j.val : Nat) : Int) = false := by decide +kernel
set_option maxRecDepth 100000 in
theorem least8 : Least 8 285 := by
  refine ⟨by decide, by decide, by decide, by decide, by decide +kernel, fun p h1 h2 => ?_⟩
  have h1' : 256 ≤ p := h1
  have h := least8_below ⟨p - 256, by omega⟩
  rwa [show 256 + (p - 256) = p by omega] at h
set_option maxHeartbeats 400000 in
theorem spPrime_even (n : Int) (w : World) (h1 : 4 ≤ n) (h2 : n ≤ 100000) (h3 : n % 2 = 0) :
    Calls Tryz.prog 119 #[.int .i64 n] w fun e w' => e = .returned (.bool false) ∧ w = w' := by
  have hd : decide (n < 2) = false := by simp; omega
  have he : (n % 2 == 0) = true := by rw [beq_iff_eq]; exact h3
  have he2 : n.tmod 2 = 0 := by rw [Int.tmod_eq_emod_of_nonneg (by omega)]; exact h3
  clear h3
  go_enter Tryz.func119, Tryz.ntmps119
  go_wp2_with fail
  go_loopw [3] (fun i wr => i = .int .i64 2 ∧ wr = w) (fun i _ => (intOf i).toNat)
  case atStart => exact ⟨rfl, rfl⟩
  case round =>
    obtain ⟨rfl, rfl⟩ := hrel
    go_wp2_with fail
    go_ret
    exact ⟨rfl, rfl⟩
set_option maxRecDepth 100000 in
set_option maxHeartbeats 1000000 in
theorem spFieldOf_any (S k g : Nat) (hS : S = 2 ^ k) (h : Least k g) (w : World) :
    Calls Tryz.prog 103 #[.int .i64 S] w fun e w' => e = .returned (.tuple #[.agg #[.int .i64 2, .int .i64 k, .int .i64 g], .int .i64 0]) ∧ Below w.heap.size w w' := by
  obtain ⟨h4, h8, hg1, hg2, hgt, hgl⟩ := h
  have hs16 : 2 ^ 4 ≤ 2 ^ k := Nat.pow_le_pow_right (by omega) h4
  have hs256 : 2 ^ k ≤ 2 ^ 8 := Nat.pow_le_pow_right (by omega) h8
  have hev : (S : Int) % 2 = 0 := by
    obtain ⟨j, rfl⟩ : ∃ j, k = j + 1 := ⟨k - 1, by omega⟩
    rw [hS, Nat.pow_succ]; omega
  have HE := Lib.hid hev
  rw [← hS] at hs16 hs256 hg1 hg2 hgl
  have HS := Lib.hid hS
  have HT := Lib.hid hgt
  have HL := Lib.hid hgl
  have hin : inB (S : Int) 3 1021 = true := inB_iff.2 (by omega)
  clear hev hS hgt hgl
  go_enter Tryz.func103, Tryz.ntmps103
  go_wp2_with fail
  have hz := push_at w (.cells #[.int .i64 0, .int .i64 0, .int .i64 0] 121 (0, 0))
  have HB0 := Lib.hid (ba1 w (.cells #[.int .i64 0, .int .i64 0, .int .i64 0] 121 (0, 0)))
  obtain ⟨w1, hw1⟩ : ∃ w1, w1 = w.alloc (.cells #[.int .i64 0, .int .i64 0, .int .i64 0] 121 (0, 0)) := ⟨_, rfl⟩
  rw [← hw1] at hz HB0 ⊢
  have HX1 := Lib.hid hz
  clear hw1 hz
  refine (spIn_any (S : Int) 3 1021 w1).mono ?_
  rintro e w2 ⟨rfl, rfl⟩
  rw [hin]
  go_wp2_with fail
  refine (spPrime_even (S : Int) w1 (by omega) (by omega) HE.out).mono ?_
  rintro e w2 ⟨rfl, rfl⟩
  go_wp2_with fail
  go_loopw [3, 6, 7, 8] (fun _ i _ _ wr => ∃ q : Nat, 3 ≤ q ∧ q ≤ k ∧ i = .int .i64 q ∧ wr = w1) (fun _ i _ _ _ => k - (intOf i).toNat)
  case atStart => exact ⟨3, by omega, by omega, rfl, rfl⟩
  case round =>
    obtain ⟨q, hq1, hq2, rfl, rfl⟩ := hrel
    obtain ⟨P, hP⟩ : ∃ P : Nat, P = 2 ^ q := ⟨_, rfl⟩
    have hPb : P ≤ S := by rw [hP, HS.out]; exact Nat.pow_le_pow_right (by omega) hq2
    have hw : wrap64 ((2 : Int) ^ q) = (P : Int) := by
      have hc : ((2 : Int) ^ q) = ((2 ^ q : Nat) : Int) := by push_cast; rfl
      rw [hc, ← hP]; unfold wrap64; omega
    have hk8 : (q : Int) ≤ 8 := by omega
    by_cases hlt : q < k
    · have hne : P < S := by rw [hP, HS.out]; exact Nat.pow_lt_pow_right (by omega) hlt
      have hb : (((S : Nat) : Int) != (P : Int)) = true := by rw [bne_iff_ne]; omega
      clear hP
      go_wp2_with fail
      exact ⟨⟨q + 1, by omega, by omega, by go_num, trivial⟩, by simp [intOf]; omega⟩
    · obtain rfl : q = k := by omega
      have hPS : P = S := by rw [hP, HS.out]
      subst hPS
      have hb : (((P : Nat) : Int) != (P : Int)) = false := by simp
      have hlt0 := blkLt HX1.out
      obtain ⟨W, hW⟩ : ∃ W : World, W = wr := ⟨_, rfl⟩
      subst hW
      clear hP
      go_wp2_with fail
      go_loopw [3, 7, 8] (fun _ p _ wq => ∃ d : Nat, P ≤ d ∧ d ≤ g ∧ p = .int .i64 d ∧ Below W.heap.size W wq) (fun _ p _ _ => g + 1 - (intOf p).toNat)
      case atStart => exact ⟨P, Nat.le_refl _, hg1, rfl, Below.refl _ _⟩
      case round =>
        obtain ⟨d, hd1, hd2, rfl, hb2⟩ := hrel
        clear hw
        have HB := Lib.hid hb2
        have hlt2 : decide ((d : Int) < 2 * (P : Int)) = true := by simp; omega
        clear hb2
        by_cases hpg : d < g
        · have HF := Lib.hid (show fldB 2 (q : Int) (d : Int) = false from HL.out d hd1 hpg)
          go_wp2_with fail
          refine (spField_bin _ _ _ (by omega) _).mono ?_
          rw [HF.out]
          rintro e w2 ⟨rfl, hb3⟩
          have HB2 := Lib.hid (bt0 HB.out (bt1 hb3) (Nat.le_refl _))
          clear hb3
          go_wp2_with fail
          exact ⟨⟨d + 1, by omega, by omega, by go_num, HB2.out⟩, by simp [intOf]; omega⟩
        · obtain rfl : d = g := by omega
          go_wp2_with fail
          refine (spField_bin _ _ _ (by omega) _).mono ?_
          rw [show fldB 2 (q : Int) (d : Int) = true from HT.out]
          rintro e w2 ⟨rfl, hb3⟩
          obtain ⟨hx, hf⟩ := heap_cellR (blkK hb3 (push_at wr (.cells #[.int .i64 2, .int .i64 (q : Int), .int .i64 (d : Int)] 121 (0, 0))))
          have HB2 := Lib.hid (bt0 HB.out (bt1 hb3) (Nat.le_refl _))
          obtain ⟨hr0, hf0⟩ := heap_cellR (blk HB2.out HX1.out hlt0)
          clear hb3
          go_wp2_with fail
          refine bodyPost_ret (v := .tuple #[.agg #[.int .i64 2, .int .i64 (q : Int), .int .i64 (d : Int)], .int .i64 0]) (by simp [results, Tryz.results103, go_sem, hr0]) rfl ⟨rfl, ?_⟩
          iterate 3 (refine Below.setCell ?_ (by dsimp only; omega) _)
          exact HB0.out.trans (HB2.out.mono HB0.out.size)

end Go.Proofs.YtlcglclojlffgaaGreatDoor
namespace Go.Proofs.YtlcglclojlffgaaGreatDoor
open Go.RowKit

/-- a block of numbers -/
def IntBlk (W : World) (b : Nat) (l : List Int) : Prop := W.heap[b]? = some (.cells (l.map (Value.int .i64)).toArray 2 (0, 0))
/-- the families' own row is no block of numbers -/
theorem own_ne_ints {W : World} {base : Nat} {v : Value} {xs : List FmR} {b : Nat} {l : List Int} (h : fmE.Own W base v xs) (hb : IntBlk W b l) : v.ownBlock ≠ some b := by
  intro e
  rcases h.2 with ⟨rfl, -⟩ | ⟨g, cap, cur, rfl, -, hg, -⟩
  · simp [Value.ownBlock] at e
  · simp only [Value.ownBlock, Option.some.injEq] at e
    subst e
    rw [hb] at hg
    simp only [Option.some.injEq, Obj.cells.injEq] at hg
    exact absurd hg.2.1 (by decide)
/-- the library while it is built -/
structure LibSt (w : World) (b0 b base : Nat) (T0 T : TypeId) (v : Value) (xs : List FmR) (W : World) : Prop where
  box : W.heap[b0]? = some (.cells #[.pointer (some ⟨b, 0, none⟩)] T0 (0, 0))
  once : OnceAt W b 0 1 v T
  own : fmE.Own W base v xs
  ints : ∀ y ∈ xs, IntBlk W y.b1 y.f.sizes ∧ IntBlk W y.b2 y.f.levels ∧ y.b1 ≠ b ∧ y.b2 ≠ b
  size : base ≤ W.heap.size
  low : Below 0 w W
  keep : ∀ j, j < base → j ≠ b → W.heap[j]? = w.heap[j]?

abbrev intsO (l : List Int) : Obj := .cells (l.map (Value.int .i64)).toArray 2 (0, 0)
theorem LibSt.step {w W W2 w' : World} {b0 b base : Nat} {T0 T : TypeId} {v v' : Value} {xs : List FmR} {y : FmR} (h : LibSt w b0 b base T0 T v xs W) (hb0 : b0 < base) (hb : b < base) (hbb : b0 ≠ b)
    (hy1 : y.b1 = W.heap.size) (hy2 : y.b2 = W.heap.size + 1) (hW2 : W2 = (W.alloc (intsO y.f.sizes)).alloc (intsO y.f.levels))
    (ho : fmE.Own w' base v' (xs ++ [y])) (h1 : OnceAt w' b 0 1 v' T) (hw : Below 0 W2 w') (hs : W2.heap.size ≤ w'.heap.size) (hk : ∀ j, j < W2.heap.size → j ≠ b → v.ownBlock ≠ some j → w'.heap[j]? = W2.heap[j]?) : LibSt w b0 b base T0 T v' (xs ++ [y]) w' := by
  have hB : Below W.heap.size W W2 := by rw [hW2]; exact ba2 _ _ _
  have h2 := heap2 W (intsO y.f.sizes) (intsO y.f.levels)
  rw [← hW2] at h2
  have hz : W2.heap.size = W.heap.size + 2 := by rw [hW2]; simp
  have hsz := h.size
  have hlo : ∀ j, j < base → v.ownBlock ≠ some j := fun j hj e => by have := h.own.lo j e; omega
  have hhi : ∀ j, W.heap.size ≤ j → v.ownBlock ≠ some j := fun j hj e => by have := h.own.hi j e; omega
  refine ⟨(hk b0 (by omega) hbb (hlo b0 hb0)).trans ((hB.block b0 (by omega)).trans h.box), h1, ho, ?_, by omega, (h.low.trans (hB.mono (Nat.zero_le _))).trans hw, fun j hj hjb => (hk j (by omega) hjb (hlo j hj)).trans ((hB.block j (by omega)).trans (h.keep j hj hjb))⟩
  intro z hz'
  rcases List.mem_append.1 hz' with hm | hm
  · obtain ⟨i1, i2, n1, n2⟩ := h.ints z hm
    have l1 := blkLt i1
    have l2 := blkLt i2
    exact ⟨(hk _ (by omega) n1 (own_ne_ints h.own i1)).trans ((hB.block _ l1).trans i1), (hk _ (by omega) n2 (own_ne_ints h.own i2)).trans ((hB.block _ l2).trans i2), n1, n2⟩
  · obtain rfl : z = y := by simpa using hm
    refine ⟨?_, ?_, by omega, by omega⟩
    · unfold IntBlk
      rw [hy1]
      exact (hk _ (by omega) (by omega) (hhi _ (Nat.le_refl _))).trans h2.1
    · unfold IntBlk
      rw [hy2]
      exact (hk _ (by omega) (by omega) (hhi _ (by omega))).trans h2.2

/-- one family more -/
theorem LibSt.call {w W : World} {b0 b base : Nat} {T0 T : TypeId} {v : Value} {xs : List FmR} (h : LibSt w b0 b base T0 T v xs W) (hb0 : b0 < base) (hb : b < base) (hbb : b0 ≠ b) (hl : xs.length ≤ 100)
    (f : Fam) (S k g : Nat) (hS : S = 2 ^ k) (hL : Least k g) (hf : f.fp = 2 ∧ f.fk = k ∧ f.fg = g) :
    Calls Tryz.prog 202 #[.string f.name, .int .i64 f.kind, .int .i64 S, .int .i64 f.cols, .slice (some ⟨W.heap.size, 0, none⟩) f.sizes.length f.sizes.length, .slice (some ⟨W.heap.size + 1, 0, none⟩) f.levels.length f.levels.length, .pointer (some ⟨b0, 0, none⟩)] ((W.alloc (intsO f.sizes)).alloc (intsO f.levels))
      fun e w' => e = .returned (.tuple #[]) ∧ ∃ v', LibSt w b0 b base T0 T v' (xs ++ [⟨f, W.heap.size, W.heap.size + 1⟩]) w' := by
  have hB := ba2 W (intsO f.sizes) (intsO f.levels)
  have hsz := h.size
  have hz : ((W.alloc (intsO f.sizes)).alloc (intsO f.levels)).heap.size = W.heap.size + 2 := by simp
  refine (addFm_any b0 b base T0 T v xs ⟨f, W.heap.size, W.heap.size + 1⟩ S k g hS hL hf _ ((hB.block b0 (by omega)).trans h.box) ((hB.block b (by omega)).trans h.once) hb0 hb hbb (by omega) (h.own.grown hB) hl).mono ?_
  rintro e w' ⟨rfl, v', ho, h1, hw, hs, hk⟩
  exact ⟨rfl, v', h.step hb0 hb hbb rfl rfl rfl ho h1 hw hs hk⟩

end Go.Proofs.YtlcglclojlffgaaGreatDoor
namespace Go.Proofs.YtlcglclojlffgaaGreatDoor
open Go.RowKit

set_option maxRecDepth 100000 in
set_option maxHeartbeats 2000000 in
/-- '(*shelf).build' -/
theorem build_any (b : Nat) (T : TypeId) (w : World) (h : OnceAt w b 0 1 (.slice none 0 0) T) :
    Calls Tryz.prog 186 #[.pointer (some ⟨b, 0, none⟩)] w fun e w' => e = .returned (.tuple #[]) ∧
      ∃ v xs w1, LibSt w1 w.heap.size b (w.heap.size + 1) 234 T v xs w' ∧ xs.map FmR.f = libF ∧ Below w.heap.size w w1 := by
  have hlt : b < w.heap.size := h.cells.2.2.2.2
  obtain ⟨w1, hw1⟩ : ∃ w1, w1 = w.alloc (.cells #[.pointer (some ⟨b, 0, none⟩)] 234 (0, 0)) := ⟨_, rfl⟩
  have HB := Lib.hid (show Below w.heap.size w w1 by rw [hw1]; exact ba1 _ _)
  have hz : w1.heap.size = w.heap.size + 1 := by rw [hw1]; simp
  have HS0 := Lib.hid (show LibSt w1 w.heap.size b (w.heap.size + 1) 234 T (.slice none 0 0) [] w1 from
    ⟨by rw [hw1]; exact push_at _ _, (HB.out.block b hlt).trans h, Enc.Own.nil _ _ _, fun _ h => by simp at h, by omega, Below.refl _ _, fun _ _ _ => rfl⟩)
  have HW1 := Lib.hid hw1
  clear hw1 h
  go_enter Tryz.func186, Tryz.ntmps186
  go_wp2_with fail
  have c0 := HS0.out.call (by omega) (by omega) (by omega) (by decide) (libF[0]'(by decide)) 16 4 19 rfl least4 ⟨rfl, rfl, rfl⟩
  rw [hz, HW1.out] at c0
  refine c0.mono ?_
  clear c0
  rintro e w2 ⟨rfl, v1, h1⟩
  have HS1 := Lib.hid h1
  clear h1
  go_wp2_with fail
  refine (HS1.out.call (by omega) (by omega) (by omega) (by simp) (libF[1]'(by decide)) 64 6 67 rfl least6 ⟨rfl, rfl, rfl⟩).mono ?_
  rintro e w3 ⟨rfl, v2, h2⟩
  have HS2 := Lib.hid h2
  clear h2
  go_wp2_with fail
  refine (HS2.out.call (by omega) (by omega) (by omega) (by simp) (libF[2]'(by decide)) 256 8 285 rfl least8 ⟨rfl, rfl, rfl⟩).mono ?_
  rintro e w4 ⟨rfl, v3, h3⟩
  have HS3 := Lib.hid h3
  clear h3
  go_wp2_with fail
  refine (HS3.out.call (by omega) (by omega) (by omega) (by simp) (libF[3]'(by decide)) 32 5 37 rfl least5 ⟨rfl, rfl, rfl⟩).mono ?_
  rintro e w5 ⟨rfl, v4, h4⟩
  have HS4 := Lib.hid h4
  clear h4
  go_wp2_with fail
  refine (HS4.out.call (by omega) (by omega) (by omega) (by simp) (libF[4]'(by decide)) 32 5 37 rfl least5 ⟨rfl, rfl, rfl⟩).mono ?_
  rintro e w6 ⟨rfl, v5, h5⟩
  have HS5 := Lib.hid h5
  clear h5
  go_wp2_with fail
  go_end0
  have H5 := HS5.out
  rw [← HW1.out] at H5
  exact ⟨rfl, v5, _, w1, H5, rfl, HB.out⟩

end Go.Proofs.YtlcglclojlffgaaGreatDoor
namespace Go.Proofs.YtlcglclojlffgaaGreatDoor
open Go.RowKit

set_option maxRecDepth 100000 in
set_option maxHeartbeats 2000000 in
/-- 'Library' -/
theorem library_any (w : World) :
    Calls Tryz.prog 178 #[] w fun e w' => ∃ v xs, e = .returned v ∧ xs.map FmR.f = libF ∧ fmE.Own w' w.heap.size v xs ∧ (∀ y ∈ xs, IntBlk w' y.b1 y.f.sizes ∧ IntBlk w' y.b2 y.f.levels) ∧ Below w.heap.size w w' := by
  obtain ⟨W, hW⟩ : ∃ W, W = w.alloc (.cells #[.int .u32 0, .int .i32 0, .int .u32 0, .slice none 0 0] 247 (0, 0)) := ⟨_, rfl⟩
  have h0 : OnceAt W w.heap.size 0 0 (.slice none 0 0) 247 := by rw [hW]; exact push_at _ _
  have hB : Below w.heap.size w W := by rw [hW]; exact ba1 _ _
  have hz : W.heap.size = w.heap.size + 1 := by rw [hW]; simp
  have h1 : OnceAt (W.setCell ⟨w.heap.size, 1, none⟩ (.int .i32 1)) w.heap.size 0 1 (.slice none 0 0) 247 := src_set h0 1 _
  have hb := build_any w.heap.size 247 _ h1
  have HD := Lib.hid (do_first w.heap.size 186 (.pointer (some ⟨w.heap.size, 0, none⟩)) _ 247 W (fun v w' => ∃ xs w1, LibSt w1 (W.setCell ⟨w.heap.size, 1, none⟩ (.int .i32 1)).heap.size w.heap.size ((W.setCell ⟨w.heap.size, 1, none⟩ (.int .i32 1)).heap.size + 1) 234 247 v xs w' ∧ xs.map FmR.f = libF ∧ Below (W.setCell ⟨w.heap.size, 1, none⟩ (.int .i32 1)).heap.size (W.setCell ⟨w.heap.size, 1, none⟩ (.int .i32 1)) w1) h0 (fun _ _ => by rfl)
    (hb.mono fun e w' ⟨he, v, xs, w1, a1, a2, a3⟩ => ⟨he, v, a1.once, xs, w1, a1, a2, a3⟩))
  have HW := Lib.hid hW
  clear hb hW
  go_enter Tryz.func178, Tryz.ntmps178
  go_wp2_with fail
  rw [← HW.out]
  refine HD.out.mono ?_
  rintro e w3 ⟨rfl, v, w2, ⟨xs, w1, hs, hx, hb⟩, hO, rfl⟩
  have hz2 : (W.setCell ⟨w.heap.size, 1, none⟩ (.int .i32 1)).heap.size = w.heap.size + 1 := by simp [hz]
  rw [hz2] at hs hb
  obtain ⟨a9, c9, rfl⟩ := hs.own.read
  have hX := src_set (src_set (show w2.drew.heap[w.heap.size]? = _ from hO) 0 (.int .u32 1)) 1 (.int .i32 0)
  have hown := ((hs.own.grown ((Below.refl _ _).drew)).src (Nat.lt_succ_of_lt (Nat.lt_succ_self _)) (grownBy_set _ _ 0 (.int .u32 1))).src (Nat.lt_succ_of_lt (Nat.lt_succ_self _)) (grownBy_set _ _ 1 (.int .i32 0))
  have hc := (heap_cellR hX).1 3
  have hI : ∀ z l, IntBlk w2 z l → z ≠ w.heap.size → IntBlk ((w2.drew.setCell ⟨w.heap.size, 0, none⟩ (.int .u32 1)).setCell ⟨w.heap.size, 1, none⟩ (.int .i32 0)) z l := fun z l h hne =>
    (heap_setCell_other _ ⟨w.heap.size, 1, none⟩ z _ (fun e => hne e)).trans ((heap_setCell_other _ ⟨w.heap.size, 0, none⟩ z _ (fun e => hne e)).trans h)
  have HI := Lib.hid (show ∀ y ∈ xs, IntBlk _ y.b1 y.f.sizes ∧ IntBlk _ y.b2 y.f.levels from fun y hy => ⟨hI _ _ (hs.ints y hy).1 (hs.ints y hy).2.2.1, hI _ _ (hs.ints y hy).2.1 (hs.ints y hy).2.2.2⟩)
  have HO := Lib.hid (hown.weak (show w.heap.size ≤ w.heap.size + 1 + 1 by omega))
  have HB9 : Hid (Below w.heap.size w ((w2.drew.setCell ⟨w.heap.size, 0, none⟩ (.int .u32 1)).setCell ⟨w.heap.size, 1, none⟩ (.int .i32 0))) := Lib.hid (by
    have h1 : Below w.heap.size w w1 := (hB.setCell (Nat.le_refl _) _).trans (hb.mono (by omega))
    have h2 : Below w.heap.size w1 w2 := ⟨hs.low.os, hs.low.tape, hs.low.output, hs.low.size, fun j hj => hs.keep j (by omega) (by omega)⟩
    exact ((h1.trans h2).drew.setCell (Nat.le_refl _) _).setCell (Nat.le_refl _) _)
  clear hI hown hs hb hB
  generalize ((w2.drew.setCell ⟨w.heap.size, 0, none⟩ (.int .u32 1)).setCell ⟨w.heap.size, 1, none⟩ (.int .i32 0)) = X at *
  have hc2 : X.cell? ⟨w.heap.size, 3, none⟩ = some (.slice a9 xs.length c9) := hc
  have hlt := blkLt hX
  clear hc hX
  go_wp2_with fail
  go_ret
  exact ⟨_, xs, rfl, hx, HO.out, HI.out, HB9.out⟩

end Go.Proofs.YtlcglclojlffgaaGreatDoor
namespace Go.Proofs.YtlcglclojlffgaaGreatDoor
open Go.RowKit

/-- a family in memory -/
theorem fm_at {w : World} {a : Option Addr} {l : List FmR} (h : fmE.At w a l) {i : Nat} {r : FmR} (hr : l[i]? = some r) : ∃ b o, a = some ⟨b, o, none⟩ ∧ b < w.heap.size ∧
    w.cell? ⟨b, o + i * 8, none⟩ = some (.string r.f.name) ∧ w.cell? ⟨b, o + i * 8 + 1, none⟩ = some (.int .i64 r.f.kind) ∧ w.cell? ⟨b, o + i * 8 + 2, none⟩ = some (.int .i64 r.f.fp) ∧ w.cell? ⟨b, o + i * 8 + 3, none⟩ = some (.int .i64 r.f.fk) ∧ w.cell? ⟨b, o + i * 8 + 4, none⟩ = some (.int .i64 r.f.fg) ∧
    w.cell? ⟨b, o + i * 8 + 5, none⟩ = some (.slice (some ⟨r.b1, 0, none⟩) r.f.sizes.length r.f.sizes.length) ∧ w.cell? ⟨b, o + i * 8 + 6, none⟩ = some (.int .i64 r.f.cols) ∧ w.cell? ⟨b, o + i * 8 + 7, none⟩ = some (.slice (some ⟨r.b2, 0, none⟩) r.f.levels.length r.f.levels.length) := by
  obtain ⟨b, o, e, hc⟩ := h i r hr
  have h0 : w.cell? ⟨b, o + i * 8, none⟩ = some (.string r.f.name) := hc 0 _ rfl
  exact ⟨b, o, e, lt_of_cell h0, h0, hc 1 _ rfl, hc 2 _ rfl, hc 3 _ rfl, hc 4 _ rfl, hc 5 _ rfl, hc 6 _ rfl, hc 7 _ rfl⟩
/-- a family as a value -/
abbrev fmA (f : Fam) (b1 b2 : Nat) : Value := .agg #[.string f.name, .int .i64 f.kind, .int .i64 f.fp, .int .i64 f.fk, .int .i64 f.fg, .slice (some ⟨b1, 0, none⟩) f.sizes.length f.sizes.length, .int .i64 f.cols, .slice (some ⟨b2, 0, none⟩) f.levels.length f.levels.length]
/-- a family with its lists is handed back, or none and a code -/
def RetFN (w : World) (o : Option Fam) (e : Ending) (w' : World) : Prop :=
  Below w.heap.size w w' ∧ ((∃ f b1 b2, o = some f ∧ e = .returned (.tuple #[fmA f b1 b2, .int .i64 0]) ∧ IntBlk w' b1 f.sizes ∧ IntBlk w' b2 f.levels) ∨
    (o = none ∧ e = .returned (.tuple #[.agg #[.string ⟨#[]⟩, .int .i64 0, .int .i64 0, .int .i64 0, .int .i64 0, .slice none 0 0, .int .i64 0, .slice none 0 0], .int .i64 4])))
theorem IntBlk.below {w w' : World} {b : Nat} {l : List Int} (h : IntBlk w b l) (hb : Below w.heap.size w w') : IntBlk w' b l := blkK hb h
theorem IntBlk.set {w : World} {z b i : Nat} {v : Value} {l : List Int} (h : IntBlk w z l) (hne : z ≠ b) : IntBlk (w.setCell ⟨b, i, none⟩ v) z l :=
  (heap_setCell_other _ ⟨b, i, none⟩ z _ (fun e => hne e)).trans h
theorem blk_ne {w : World} {b c : Nat} {l : List Int} {C : Array Value} {T : TypeId} (h : IntBlk w b l) (k : w.heap[c]? = some (.cells C T (0, 0))) (hT : T ≠ 2) : b ≠ c := by
  rintro rfl
  unfold IntBlk at h
  rw [k] at h
  injection h with h
  injection h with h1 h2
  exact hT h2
theorem IntBlk.at {w : World} {b : Nat} {l : List Int} (h : IntBlk w b l) : IntsAt w (some ⟨b, 0, none⟩) l := by
  intro i hi
  refine ⟨b, 0, rfl, ?_⟩
  rw [Nat.zero_add, (heap_cellR h).1]
  simp [hi]
theorem famN_map {xs : List FmR} (h : xs.map FmR.f = libF) (nm : ByteArray) : famN nm = (xs.find? fun r => decide (r.f.name = nm)).map FmR.f := by
  rw [famN, ← h, List.find?_map]; rfl
theorem find_hit {α : Type} {p : α → Bool} {xs : List α} {k : Nat} {x : α} (h : xs[k]? = some x) (hn : (xs.take k).find? p = none) (hp : p x = true) : xs.find? p = some x := by
  have hlt : k < xs.length := by rw [List.getElem?_eq_some_iff] at h; exact h.1
  have e : xs = xs.take k ++ x :: xs.drop (k + 1) := by
    rw [List.getElem?_eq_some_iff] at h
    obtain ⟨h1, rfl⟩ := h
    rw [List.getElem_cons_drop, List.take_append_drop]
  rw [e, List.find?_append, hn]
  simp [hp]
theorem find_miss {α : Type} {p : α → Bool} {xs : List α} {k : Nat} {x : α} (h : xs[k]? = some x) (hn : (xs.take k).find? p = none) (hp : p x = false) : (xs.take (k + 1)).find? p = none := by
  rw [take_snoc' h, List.find?_append, hn]
  simp [hp]

set_option maxRecDepth 100000 in
set_option maxHeartbeats 4000000 in
theorem familyNamed_any (nm : ByteArray) (w : World) :
    Calls Tryz.prog 174 #[.string nm] w (RetFN w (famN nm)) := by
  obtain ⟨O, hO⟩ : ∃ O, O = famN nm := ⟨_, rfl⟩
  have HO := Lib.hid hO
  rw [← hO]
  clear hO
  have HR0 := Lib.hid (push_at w (.cells #[.string ⟨#[]⟩, .int .i64 0, .int .i64 0, .int .i64 0, .int .i64 0, .slice none 0 0, .int .i64 0, .slice none 0 0] 123 (0, 0)))
  go_enter Tryz.func174, Tryz.ntmps174
  go_wp2_with fail
  refine (library_any _).mono ?_
  rintro e w1 ⟨v, xs, rfl, hx, ho, hi, hb⟩
  obtain ⟨a, c, rfl⟩ := ho.read
  have hl : xs.length = 5 := by have := congrArg List.length hx; simpa [libF] using this
  have HF := Lib.hid (HO.out.trans (famN_map hx nm))
  have HR1 := Lib.hid (blkK hb HR0.out)
  have HA := Lib.hid ho.at
  have HI := Lib.hid hi
  have HB1 := Lib.hid (bt1 hb)
  have hz1 : w.heap.size < w1.heap.size := blkLt HR1.out
  clear ho hi hb hx
  go_wp2_with fail
  go_loopw [8] (fun i wr => ∃ k : Nat, k ≤ xs.length ∧ i = .int .i64 k ∧ (xs.take k).find? (fun r => decide (r.f.name = nm)) = none ∧ Below w1.heap.size w1 wr) (fun i _ => xs.length - (intOf i).toNat)
  case atStart => exact ⟨0, Nat.zero_le _, rfl, rfl, Below.refl _ _⟩
  case round =>
    obtain ⟨k, hk, rfl, hnone, hbr⟩ := hrel
    have HNO := Lib.hid hnone
    have HBR := Lib.hid hbr
    have KR := Lib.hid (blkK hbr HR1.out)
    obtain ⟨hcR, hfR⟩ := heap_cellR KR.out
    have hltR := blkLt KR.out
    clear hnone hbr
    by_cases hlt : k < xs.length
    · have hki : (k : Int) < 5 := by omega
      obtain ⟨r, hr⟩ : ∃ r, xs[k]? = some r := by rw [List.getElem?_eq_getElem hlt]; exact ⟨_, rfl⟩
      have HXK := Lib.hid hr
      have hm := List.mem_of_getElem? hr
      obtain ⟨b, o, rfl, hbl, c0, c1, c2, c3, c4, c5, c6, c7⟩ := fm_at (HA.out.below HBR.out) hr
      by_cases hq : r.f.name = nm
      · have HD := Lib.hid (show O = some r.f by rw [HF.out, find_hit HXK.out HNO.out (decide_eq_true hq)]; rfl)
        have hqd : (r.f.name.toList == nm.toList) = true := by rw [hq]; simp
        have HJ := Lib.hid (HI.out r hm)
        clear hr hm
        have HBA := Lib.hid (HJ.out.1.below HBR.out)
        have HBC := Lib.hid (HJ.out.2.below HBR.out)
        have hn1 := blk_ne HBA.out KR.out (by decide)
        have hn2 := blk_ne HBC.out KR.out (by decide)
        clear hq
        go_wp2_with fail
        refine bodyPost_ret (v := .tuple #[.agg #[.string r.f.name, .int .i64 r.f.kind, .int .i64 r.f.fp, .int .i64 r.f.fk, .int .i64 r.f.fg, .slice (some ⟨r.b1, 0, none⟩) r.f.sizes.length r.f.sizes.length, .int .i64 r.f.cols, .slice (some ⟨r.b2, 0, none⟩) r.f.levels.length r.f.levels.length], .int .i64 0]) (by simp [results, Tryz.results174, go_sem, hcR, hltR]) rfl ⟨?_, .inl ⟨r.f, r.b1, r.b2, HD.out, rfl, ?_, ?_⟩⟩
        · refine Below.alloc ?_ (by simp; omega) _
          iterate 8 (refine Below.setCell ?_ (by dsimp only; omega) _)
          exact bt0 HB1.out HBR.out (Nat.le_refl _)
        · refine IntBlk.below ?_ (ba1 _ _)
          iterate 8 (refine IntBlk.set ?_ hn1)
          exact HBA.out
        · refine IntBlk.below ?_ (ba1 _ _)
          iterate 8 (refine IntBlk.set ?_ hn2)
          exact HBC.out
      · have HN2 := Lib.hid (find_miss HXK.out HNO.out (decide_eq_false hq))
        have hqd : (r.f.name.toList == nm.toList) = false := by
          rw [beq_eq_false_iff_ne, ne_eq, ByteArray.toList_eq, ByteArray.toList_eq]; exact fun e => hq (ByteArray.ext (Array.toList_inj.1 e))
        clear hr hm hq
        go_wp2_with fail
        exact ⟨⟨k + 1, by omega, by go_num, HN2.out, bt0 HBR.out (ba1 _ _) (Nat.le_refl _)⟩, by simp [intOf]; omega⟩
    · have hki : ¬ (k : Int) < 5 := by omega
      have HD := Lib.hid (show O = none by
        have h := HNO.out
        rw [List.take_of_length_le (by omega)] at h
        rw [HF.out, h]; rfl)
      go_wp2_with fail
      refine bodyPost_ret (v := .tuple #[.agg #[.string ⟨#[]⟩, .int .i64 0, .int .i64 0, .int .i64 0, .int .i64 0, .slice none 0 0, .int .i64 0, .slice none 0 0], .int .i64 4]) (by simp [results, Tryz.results174, go_sem, hcR]) rfl ⟨?_, .inr ⟨HD.out, rfl⟩⟩
      iterate 8 (refine Below.setCell ?_ (by dsimp only; omega) _)
      exact bt0 HB1.out HBR.out (Nat.le_refl _)

end Go.Proofs.YtlcglclojlffgaaGreatDoor
