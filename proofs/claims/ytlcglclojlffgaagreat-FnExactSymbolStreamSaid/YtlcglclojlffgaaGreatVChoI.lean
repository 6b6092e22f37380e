import Derived.Test.YtlcglclojlffgaaGreatVTabI
import Derived.Test.YtlcglclojlffgaaGreatM4
import Derived.Test.YtlcglclojlffgaaGreatVBoxKb
namespace Go.Proofs.YtlcglclojlffgaaGreat
open Go.RowKit

/-- the table when the choices from k on are known -/
def tabF (s : List UInt8) (k : Nat) (i : Nat) : Ch := if i < k then chZ else hdC (s.drop i)
/-- what stands while choices are made -/
structure ChoW (w0 wr : World) (g wb fb : Nat) (s : List UInt8) (k : Nat) (f : Nat → Nat) : Prop where
  tab : TabAt wr g (s.length + 1) (tabF s k)
  wid : WidAt wr wb
  rch : RchAt wr fb f
  gw : g < wb
  wf : wb < fb
  base : w0.heap.size ≤ g
  below : Below w0.heap.size w0 wr
theorem ChoW.grown {w0 wr w' : World} {g wb fb : Nat} {s : List UInt8} {k : Nat} {f : Nat → Nat} (h : ChoW w0 wr g wb fb s k f) (hb : Below wr.heap.size wr w') : ChoW w0 w' g wb fb s k f :=
  ⟨h.tab.below hb, h.wid.below hb, h.rch.below hb, h.gw, h.wf, h.base, bt0 h.below hb (Nat.le_refl _)⟩
theorem ChoW.other {w0 wr w' : World} {g wb fb B : Nat} {s : List UInt8} {k : Nat} {f : Nat → Nat} (h : ChoW w0 wr g wb fb s k f) (hg : wr.grownBy w' (some B)) (hB : fb < B) : ChoW w0 w' g wb fb s k f := by
  have h1 := h.gw
  have h2 := h.wf
  have h3 := h.base
  obtain ⟨C, t, k1, k2⟩ := h.wid
  have hk : ∀ b, b < B → b < wr.heap.size → w'.heap[b]? = wr.heap[b]? := fun b hb hl => hg.block b hl (fun e => by cases e; omega)
  refine ⟨h.tab.kept (hk _ (by omega) h.tab.lt), ⟨C, t, (hk _ (by omega) (blkLt k1)).trans k1, k2⟩, h.rch.kept (hk _ hB h.rch.lt), h1, h2, h3, h.below.trans (below_of_grownBy hg (h.below.size) (fun j e => by cases e; omega))⟩
theorem ChoW.took {w0 wr w' : World} {g wb fb : Nat} {s : List UInt8} {k : Nat} {f f' : Nat → Nat} (h : ChoW w0 wr g wb fb s k f) (hg : wr.grownBy w' (some fb)) (hr : RchAt w' fb f') : ChoW w0 w' g wb fb s k f' := by
  have h1 := h.gw
  have h2 := h.wf
  have h3 := h.base
  obtain ⟨C, t, k1, k2⟩ := h.wid
  have hk : ∀ b, b < fb → b < wr.heap.size → w'.heap[b]? = wr.heap[b]? := fun b hb hl => hg.block b hl (fun e => by cases e; omega)
  exact ⟨h.tab.kept (hk _ (by omega) h.tab.lt), ⟨C, t, (hk _ (by omega) (blkLt k1)).trans k1, k2⟩, hr, h1, h2, h3, h.below.trans (below_of_grownBy hg (h.below.size) (fun j e => by cases e; omega))⟩
theorem ChoW.like {w0 wr : World} {g wb fb : Nat} {s : List UInt8} {k : Nat} {f f' : Nat → Nat} (h : ChoW w0 wr g wb fb s k f) (e : ∀ i, 1 ≤ i → i ≤ 4 → f' i = f i) : ChoW w0 wr g wb fb s k f' :=
  ⟨h.tab, h.wid, h.rch.like e, h.gw, h.wf, h.base, h.below⟩
theorem BxC.kept {w w' : World} {g : Nat} {x : Ch} (h : BxC w g x) (hk : w'.heap[g]? = w.heap[g]?) : BxC w' g x := TabAt.kept h hk
theorem BxC.below {w w' : World} {g : Nat} {x : Ch} (h : BxC w g x) (hb : Below w.heap.size w w') : BxC w' g x := TabAt.below h hb
theorem BxC.lt {w : World} {g : Nat} {x : Ch} (h : BxC w g x) : g < w.heap.size := TabAt.lt h
theorem runL_take (f : Nat → Nat) (c : UInt8) (l : List UInt8) (h : ∀ m, f m = runL m l) (m : Nat) : runL m (c :: l) = tkN f c m := by rw [runL, tkN, h]
set_option maxRecDepth 100000 in
set_option maxHeartbeats 4000000 in
theorem choices_any (s : ByteArray) (w : World) (hs : s.size ≤ 400) :
    Calls Tryz.prog 76 #[.string s] w fun e w' => e = .returned (.slice (some ⟨w.heap.size, 0, none⟩) (s.size + 1) (s.size + 1)) ∧ TabAt w' w.heap.size (s.size + 1) (tabF s.data.toList 0) ∧ Below w.heap.size w w' := by
  have hmk := make_ch (s.size + 1) (by omega)
  push_cast at hmk
  go_enter Tryz.func76, Tryz.ntmps76
  go_wp2_with fail
  refine (widths_any _).mono ?_
  rintro e w2 ⟨rfl, hw2, hb2⟩
  have HT2 := Lib.hid ((TabAt.new w (s.size + 1)).below hb2)
  have HB2 := Lib.hid (bt1 hb2)
  have HW2 := Lib.hid (show WidAt w2 (w.heap.size + 1) by simpa using hw2)
  clear hw2 hb2 hmk
  go_wp2_with fail
  obtain ⟨S, hS⟩ : ∃ S, S = s.data.toList := ⟨_, rfl⟩
  have hSl : S.length = s.size := by rw [hS]; rfl
  have HS := Lib.hid hS
  have HSL := Lib.hid hSl
  have HC0 : Hid (ChoW w (w2.alloc (.cells #[.int .i64 0, .int .i64 0, .int .i64 0, .int .i64 0, .int .i64 0] 132 (0, 0))) w.heap.size (w.heap.size + 1) w2.heap.size S S.length (fun m => runL m (S.drop S.length))) := Lib.hid (by
    refine ⟨?_, HW2.out.below (ba1 _ _), ?_, by omega, ?_, Nat.le_refl _, bt0 HB2.out (ba1 _ _) (Nat.le_refl _)⟩
    · rw [hSl]
      exact (HT2.out.below (ba1 _ _)).like (fun i hi => by
        unfold tabF
        by_cases h : i < s.size
        · rw [if_pos (by omega)]
        · rw [if_neg (by omega), List.drop_eq_nil_of_le (by omega)]; rfl)
    · refine ⟨_, _, push_at _ _, rfl, fun i h1 h4 => ?_⟩
      obtain rfl | rfl | rfl | rfl : i = 1 ∨ i = 2 ∨ i = 3 ∨ i = 4 := by omega
      all_goals (rw [List.drop_eq_nil_of_le (Nat.le_refl _)]; rfl)
    · obtain ⟨C, t, k1, k2⟩ := HW2.out
      simpa using blkLt k1)
  clear hS hSl
  go_loopw [6, 7, 8, 9, 10, 11] (fun a _ _ _ _ _ wr => ∃ k : Nat, k ≤ s.size ∧ a = .int .i64 ((k : Int) - 1) ∧ ChoW w wr w.heap.size (w.heap.size + 1) w2.heap.size S k (fun m => runL m (S.drop k))) (fun a _ _ _ _ _ _ => (intOf a + 1).toNat)
  case atStart => exact ⟨s.size, Nat.le_refl _, rfl, by rw [← HSL.out]; exact HC0.out⟩
  case round =>
    obtain ⟨k, hk, rfl, hc⟩ := hrel
    have HC := Lib.hid hc
    clear hc
    rcases k with - | k
    · have hdec : decide ((0 : Int) ≤ ((0 : Nat) : Int) - 1) = false := by decide
      go_wp2_with fail
      go_ret
      exact ⟨rfl, by rw [← HS.out, ← HSL.out]; exact HC.out.tab, HC.out.below⟩
    · have hdec : decide ((0 : Int) ≤ ((k + 1 : Nat) : Int) - 1) = true := by simp
      have hki : ((k + 1 : Nat) : Int) - 1 = (k : Int) := by omega
      rw [hki] at hdec ⊢
      have hkn : k < s.size := by omega
      have hki2 : (k : Int) < (s.size : Int) := by omega
      obtain ⟨c, hcb⟩ : ∃ c, c = s[k] := ⟨_, rfl⟩
      have HCB := Lib.hid (show S[k]? = some c by rw [HS.out, hcb]; exact List.getElem?_eq_getElem (by simpa using hkn))
      have hfl := fun m => (runL_le m (S.drop (k + 1))).2
      have HFL := Lib.hid hfl
      clear hfl
      go_wp2_with fail
      refine (take_any w2.heap.size _ HFL.out c _ (by rw [hcb]) _ (HC.out.rch.below (ba1 _ _))).mono ?_
      rintro e w3 ⟨rfl, hr3, hg3⟩
      obtain ⟨cl, hcl⟩ : ∃ cl, cl = S.drop k := ⟨_, rfl⟩
      obtain ⟨l, hl⟩ : ∃ l, l = S.drop (k + 1) := ⟨_, rfl⟩
      have HCL := Lib.hid (show cl = c :: l by
        rw [hcl, hl]
        have h := HCB.out
        obtain ⟨hk', e⟩ := List.getElem?_eq_some_iff.1 h
        rw [List.drop_eq_getElem_cons hk', e])
      have hB0 : w2.heap.size < wr.heap.size := HC.out.rch.lt
      have hBx : BxC w3 wr.heap.size chZ := (BxC.new wr chZ 100).kept (hg3.block _ (by simp) (fun e => by have := Option.some.inj e; omega))
      have HX0 := Lib.hid hBx
      have HC3 := Lib.hid (show ChoW w w3 w.heap.size (w.heap.size + 1) w2.heap.size S (k + 1) (fun m => runL m cl) from
        ((HC.out.grown (ba1 _ _)).took hg3 hr3).like (fun i _ _ => by rw [HCL.out]; exact runL_take _ c l (fun m => by rw [hl]) i))
      have hcll : cl.length = s.size - k := by rw [hcl, List.length_drop, HSL.out]
      have HCLe := Lib.hid hcl
      have HLe := Lib.hid hl
      have hB : w2.heap.size < wr.heap.size := hB0
      obtain ⟨B, hBe⟩ : ∃ B, B = wr.heap.size := ⟨_, rfl⟩
      rw [← hBe] at HX0 hB
      clear hr3 hg3 hBx hcl hl hB0 HFL hcb
      go_wp2_with fail
      try rw [← hBe]
      clear hBe
      go_loopw [8, 9, 10, 11] (fun i _ _ _ wx => ∃ m : Nat, 1 ≤ m ∧ m ≤ 5 ∧ i = .int .i64 m ∧ ChoW w wx w.heap.size (w.heap.size + 1) w2.heap.size S (k + 1) (fun m => runL m cl) ∧ BxC wx B (modC cl (tabC l) (m - 1))) (fun i _ _ _ _ => 5 - (intOf i).toNat)
      case atStart => exact ⟨1, by omega, by omega, rfl, HC3.out, HX0.out⟩
      case round =>
        obtain ⟨m, hm1, hm5, rfl, hc, hx⟩ := hrel
        have HCm := Lib.hid hc
        have HXm := Lib.hid hx
        clear hc hx
        by_cases hlt : m ≤ 4
        · have hdec : decide ((m : Int) ≤ 4) = true := by simp; omega
          go_wp2_with fail
          go_loopw [9, 10, 11] (fun i _ _ wx => ∃ n : Nat, 1 ≤ n ∧ n ≤ runL m cl + 1 ∧ i = .int .i64 n ∧ ChoW w wx w.heap.size (w.heap.size + 1) w2.heap.size S (k + 1) (fun m => runL m cl) ∧ BxC wx B (tryC (tabC l) m (n - 1) (modC cl (tabC l) (m - 1)))) (fun i _ _ _ => runL m cl + 1 - (intOf i).toNat)
          case atStart => exact ⟨1, by omega, by omega, rfl, HCm.out, HXm.out⟩
          case round =>
            obtain ⟨n, hn1, hnR, rfl, hc, hx⟩ := hrel
            have HCn := Lib.hid hc
            have HXn := Lib.hid hx
            obtain ⟨hR1, hR2⟩ := runL_le m cl
            obtain ⟨hcf, -⟩ := hc.rch.cell hm1 hlt
            have hlf := hc.rch.lt
            obtain ⟨R, hRe⟩ : ∃ R, R = runL m cl := ⟨_, rfl⟩
            rw [← hRe] at hnR hR1 hR2 hcf
            have HRe := Lib.hid hRe
            clear hc hx hRe
            by_cases hln : n ≤ R
            · have hdec : decide ((n : Int) ≤ (R : Int)) = true := by simp; omega
              obtain ⟨x1, x2, x3, x4, -⟩ := HCn.out.tab.cell (i := k + n) (by rw [HSL.out]; omega)
              have htf : tabF S (k + 1) (k + n) = hdC (S.drop (k + n)) := by unfold tabF; rw [if_neg (by omega)]
              obtain ⟨⟨rl, rc, rt, rm⟩, hre⟩ : ∃ x : Ch, x = hdC (S.drop (k + n)) := ⟨_, rfl⟩
              rw [htf, ← hre] at x1 x2 x3 x4
              dsimp only at x1 x2 x3 x4
              have HRE := Lib.hid hre
              have hlt2 := HCn.out.tab.lt
              obtain ⟨q, hq⟩ : ∃ q, q = k + n := ⟨_, rfl⟩
              have hqi : (k : Int) + (n : Int) = (q : Int) := by omega
              have hqi2 : (q : Int) < (s.size : Int) + 1 := by omega
              rw [← hq] at x1 x2 x3 x4
              have HQ := Lib.hid hq
              clear htf hre hq
              go_wp2_with fail
              obtain ⟨rb, hrb⟩ : ∃ rb, rb = wr.heap.size := ⟨_, rfl⟩
              obtain ⟨w6, hw6⟩ : ∃ w6, w6 = wr.alloc (.cells #[.int .i64 rl, .int .i64 rc, .int .i64 rt, .int .i64 rm] 100 (0, 0)) := ⟨_, rfl⟩
              have HC6 := Lib.hid (show ChoW w w6 w.heap.size (w.heap.size + 1) w2.heap.size S (k + 1) (fun m => runL m cl) by rw [hw6]; exact HCn.out.grown (ba1 _ _))
              have HX6 := Lib.hid (show BxC w6 B (tryC (tabC l) m (n - 1) (modC cl (tabC l) (m - 1))) by rw [hw6]; exact HXn.out.below (ba1 _ _))
              have hr0 : w6.cell? ⟨rb, 0, none⟩ = some (.int .i64 rl) := by rw [hw6, hrb, (heap_cellR (push_at _ _)).1]; rfl
              have hr1 : w6.cell? ⟨rb, 1, none⟩ = some (.int .i64 rc) := by rw [hw6, hrb, (heap_cellR (push_at _ _)).1]; rfl
              have hs6 : w6.heap.size = rb + 1 := by rw [hw6, hrb]; simp
              have hBr : B < rb := by rw [hrb]; exact HXn.out.lt
              obtain ⟨hcw, -⟩ := HC6.out.wid.cell hm1 hlt hn1 (show n ≤ 255 by omega)
              have hVb := segW_le m n hn1
              obtain ⟨V, hV⟩ : ∃ V, V = segW m n := ⟨_, rfl⟩
              rw [← hV] at hcw hVb
              have HV := Lib.hid hV
              have hbd := hdC_bd _ (S.drop (k + n)) (Nat.le_refl _)
              rw [← HRE.out] at hbd
              obtain ⟨hb1, hb2, hb3, hb4⟩ := hbd
              rw [List.length_drop, HSL.out] at hb2 hb4
              dsimp only at hb1 hb2 hb3 hb4
              have hbl : 0 ≤ rl ∧ rl ≤ 7600 := by omega
              have hbc : 0 ≤ rc ∧ rc ≤ 400 := by omega
              try rw [← hw6]
              try rw [← hrb]
              clear hw6 hrb hV hb1 hb2 hb3 hb4 x1 x2 x3 x4 hcf
              refine wp_region_rt (Keep := KB) [51, 52, 53, 54, 55, 56, 57, 58, 59, 60, 61, 62, 63, 64, 65, 66, 11] (fun us => _)
                [spE (.pointer (some ⟨w.heap.size + 1, 0, none⟩)),
                 spE (.int .i64 (m : Int)),
                 spE (.int .i64 (n : Int)),
                 spE (.pointer (some ⟨w.heap.size + 1, 0, none⟩)),
                 spE (.pointer (some ⟨w.heap.size + 1, m * 256, none⟩)),
                 spE (.pointer (some ⟨w.heap.size + 1, m * 256 + n, none⟩)),
                 spE (.int .i64 (V : Int)),
                 spE (.pointer (some ⟨rb, 0, none⟩)),
                 spE (.int .i64 rl),
                 spE (.int .i64 ((V : Int) + rl)),
                 spE (.pointer (some ⟨rb, 1, none⟩)),
                 spE (.int .i64 rc),
                 spE (.int .i64 (rc + 1)),
                 spE (.int .i64 (n : Int)),
                 spE (.int .i64 (m : Int)),
                 spE (.agg #[.int .i64 ((V : Int) + rl), .int .i64 (rc + 1), .int .i64 (n : Int), .int .i64 (m : Int)]),
                 spBox (rb + 1) #[.int .i64 0, .int .i64 0, .int .i64 0, .int .i64 0] 100]
                (StX w6) (by kernel_rfl) (by kernel_rfl) (Nat.le_of_ble_eq_true rfl) (fun us => by simp [over, List.mapIdx_cons]; exact rfl) (stX0 _) kbr ?_ ?_
              · refine ⟨?_, ?_, ?_, ?_, ?_, ?_, ?_, ?_, ?_, ?_, ?_, ?_, ?_, ?_, ?_, ?_, ?_, trivial⟩
                all_goals (intro us wx hst hd; rw [if_pos (by kernel_rfl)]; dsimp only)
                · clear hd
                  go_simp
                  exact kb_same hst rfl
                · clear hd
                  go_simp
                  exact kb_same hst rfl
                · clear hd
                  go_simp
                  exact kb_same hst rfl
                · have d51 : us 51 = (.pointer (some ⟨w.heap.size + 1, 0, none⟩)) := hd ⟨0, .data⟩ (by simp) rfl
                  clear hd
                  go_simp
                  exact kb_same hst rfl
                · have d54 : us 54 = (.pointer (some ⟨w.heap.size + 1, 0, none⟩)) := hd ⟨3, .data⟩ (by simp) rfl
                  have d52 : us 52 = (.int .i64 (m : Int)) := hd ⟨1, .data⟩ (by simp) rfl
                  clear hd
                  have hi5 : (m : Int) < 5 := by omega
                  go_simp
                  exact kb_same hst rfl
                · have d55 : us 55 = (.pointer (some ⟨w.heap.size + 1, m * 256, none⟩)) := hd ⟨4, .data⟩ (by simp) rfl
                  have d53 : us 53 = (.int .i64 (n : Int)) := hd ⟨2, .data⟩ (by simp) rfl
                  clear hd
                  have hi5 : (n : Int) < 256 := by omega
                  go_simp
                  exact kb_same hst rfl
                · have d56 : us 56 = (.pointer (some ⟨w.heap.size + 1, m * 256 + n, none⟩)) := hd ⟨5, .data⟩ (by simp) rfl
                  clear hd
                  have hW := below_cell hst hcw
                  go_simp
                  exact kb_same hst rfl
                · clear hd
                  go_simp
                  exact kb_same hst rfl
                · have d58 : us 58 = (.pointer (some ⟨rb, 0, none⟩)) := hd ⟨7, .data⟩ (by simp) rfl
                  clear hd
                  have hW := below_cell hst hr0
                  go_simp
                  exact kb_same hst rfl
                · have d57 : us 57 = (.int .i64 (V : Int)) := hd ⟨6, .data⟩ (by simp) rfl
                  have d59 : us 59 = (.int .i64 rl) := hd ⟨8, .data⟩ (by simp) rfl
                  clear hd
                  have hw : IntKind.i64.wrap ((V : Int) + rl) = (V : Int) + rl := by rw [IntKind.wrap_i64]; omega
                  go_simp
                  exact kb_same hst rfl
                · clear hd
                  go_simp
                  exact kb_same hst rfl
                · have d61 : us 61 = (.pointer (some ⟨rb, 1, none⟩)) := hd ⟨10, .data⟩ (by simp) rfl
                  clear hd
                  have hW := below_cell hst hr1
                  go_simp
                  exact kb_same hst rfl
                · have d62 : us 62 = (.int .i64 rc) := hd ⟨11, .data⟩ (by simp) rfl
                  clear hd
                  have hw : IntKind.i64.wrap (rc + 1) = rc + 1 := by rw [IntKind.wrap_i64]; omega
                  go_simp
                  exact kb_same hst rfl
                · clear hd
                  go_simp
                  exact kb_same hst rfl
                · clear hd
                  go_simp
                  exact kb_same hst rfl
                · have d60 : us 60 = (.int .i64 ((V : Int) + rl)) := hd ⟨9, .data⟩ (by simp) rfl
                  have d63 : us 63 = (.int .i64 (rc + 1)) := hd ⟨12, .data⟩ (by simp) rfl
                  have d64 : us 64 = (.int .i64 (n : Int)) := hd ⟨13, .data⟩ (by simp) rfl
                  have d65 : us 65 = (.int .i64 (m : Int)) := hd ⟨14, .data⟩ (by simp) rfl
                  clear hd
                  go_simp
                  exact kb_same hst rfl
                · clear hd
                  go_simp
                  exact kb_new hst (by omega)
              · intro us wx hst hd
                have d11 := hd 16 (by simp)
                have d66 : us 66 = (.agg #[.int .i64 ((V : Int) + rl), .int .i64 (rc + 1), .int .i64 (n : Int), .int .i64 (m : Int)]) := hd 15 (by simp)
                clear hd
                simp only [List.drop, List.length]
                rw [d66]
                obtain ⟨xb, hxb, hxb1, hxg⟩ := d11
                rw [hxb]
                have HC7 := Lib.hid (HC6.out.grown hst)
                have HB7 := Lib.hid (HX6.out.below hst)
                have HX7 : Hid (BxC wx xb chZ) := Lib.hid ⟨_, _, hxg, rfl, fun i hi => by
                  obtain rfl : i = 0 := by omega
                  exact ⟨rfl, rfl, rfl, rfl⟩⟩
                obtain ⟨z1, z2, z3, z4, z5⟩ := HX7.out.cells
                have hlx := HX7.out.lt
                have hlB := HB7.out.lt
                obtain ⟨⟨tl, tc, tt, tm⟩, hte⟩ : ∃ x : Ch, x = tryC (tabC l) m (n - 1) (modC cl (tabC l) (m - 1)) := ⟨_, rfl⟩
                rw [← hte] at HB7
                obtain ⟨v1, v2, v3, v4, v5⟩ := HB7.out.cells
                have HTE := Lib.hid hte
                have hne : B ≠ xb := by omega
                have hne' : xb ≠ B := by omega
                clear hxg hxb d66 hte hr0 hr1 hcw
                have HCD := Lib.hid (show candC (tabC l) m n = ⟨(V : Int) + rl, rc + 1, n, m⟩ by
                  have hll : l.length = s.size - (k + 1) := by rw [HLe.out, List.length_drop, HSL.out]
                  have e : (tabC l).getD (n - 1) chZ = ⟨rl, rc, rt, rm⟩ := by
                    rw [List.getD_eq_getElem?_getD, tabC_at l (n - 1) (by omega), HRE.out, HLe.out, List.drop_drop, show k + 1 + (n - 1) = k + n by omega]
                    rfl
                  rw [candC, e, ← HV.out])
                have HTN := Lib.hid (show tryC (tabC l) m n (modC cl (tabC l) (m - 1)) = betC ⟨tl, tc, tt, tm⟩ ⟨(V : Int) + rl, rc + 1, n, m⟩ by
                  obtain ⟨j, rfl⟩ : ∃ j, n = j + 1 := ⟨n - 1, by omega⟩
                  rw [tryC, HCD.out, HTE.out]; rfl)
                have HG1 := Lib.hid (four_grown wx xb 0 1 2 3 (.int .i64 ((V : Int) + rl)) (.int .i64 (rc + 1)) (.int .i64 (n : Int)) (.int .i64 (m : Int)))
                have HC8 := Lib.hid (HC7.out.other HG1.out (by omega))
                have HB8 := Lib.hid (HB7.out.kept (HG1.out.block B hlB (fun e => by have := Option.some.inj e; omega)))
                have HCase := Lib.hid (show ∀ wy, ChoW w wy w.heap.size (w.heap.size + 1) w2.heap.size S (k + 1) (fun m => runL m cl) → BxC wy B ⟨tl, tc, tt, tm⟩ → betC ⟨tl, tc, tt, tm⟩ ⟨(V : Int) + rl, rc + 1, n, m⟩ = ⟨(V : Int) + rl, rc + 1, n, m⟩ →
                    (∃ n_1 : Nat, 1 ≤ n_1 ∧ n_1 ≤ runL m cl + 1 ∧ Value.int .i64 ((n : Int) + 1) = .int .i64 n_1 ∧ ChoW w ((((wy.setCell ⟨B, 0, none⟩ (.int .i64 ((V : Int) + rl))).setCell ⟨B, 1, none⟩ (.int .i64 (rc + 1))).setCell ⟨B, 2, none⟩ (.int .i64 (n : Int))).setCell ⟨B, 3, none⟩ (.int .i64 (m : Int))) w.heap.size (w.heap.size + 1) w2.heap.size S (k + 1) (fun m => runL m cl) ∧
                      BxC ((((wy.setCell ⟨B, 0, none⟩ (.int .i64 ((V : Int) + rl))).setCell ⟨B, 1, none⟩ (.int .i64 (rc + 1))).setCell ⟨B, 2, none⟩ (.int .i64 (n : Int))).setCell ⟨B, 3, none⟩ (.int .i64 (m : Int))) B (tryC (tabC l) m (n_1 - 1) (modC cl (tabC l) (m - 1)))) from
                  fun wy hcy hby hbet => ⟨n + 1, by omega, by rw [← HRe.out]; omega, by push_cast; rfl, hcy.other (four_grown wy B 0 1 2 3 _ _ _ _) (by omega), by
                    rw [Nat.add_sub_cancel, HTN.out, hbet]
                    exact hby.set ⟨(V : Int) + rl, rc + 1, n, m⟩⟩)
                by_cases h0 : tc = 0
                · subst h0
                  go_wp2_with fail
                  exact ⟨HCase.out _ HC8.out HB8.out (by rw [betC, if_pos (Or.inl rfl)]), by rw [← HRe.out]; simp [intOf]; omega⟩
                · have h0' : (tc == 0) = false := by rw [beq_eq_false_iff_ne]; exact h0
                  have H0 := Lib.hid h0
                  clear h0
                  go_wp2_with fail
                  refine (better_any ⟨(V : Int) + rl, rc + 1, n, m⟩ ⟨tl, tc, tt, tm⟩ _).mono ?_
                  rintro e w9 ⟨rfl, hb9⟩
                  have HC9 := Lib.hid (HC8.out.grown hb9)
                  have HB9 := Lib.hid (HB8.out.below hb9)
                  have HX9 := Lib.hid ((HX7.out.set ⟨(V : Int) + rl, rc + 1, n, m⟩).below hb9)
                  obtain ⟨z1, z2, z3, z4, z5⟩ := HX9.out.cells
                  obtain ⟨v1, v2, v3, v4, v5⟩ := HB9.out.cells
                  have hl9 := HX9.out.lt
                  have hl8 := HB9.out.lt
                  clear hb9
                  rcases Bool.eq_false_or_eq_true (chB ⟨(V : Int) + rl, rc + 1, n, m⟩ ⟨tl, tc, tt, tm⟩) with hb | hb
                  · rw [hb]
                    have HBe := Lib.hid hb
                    clear hb
                    go_wp2_with fail
                    exact ⟨HCase.out _ HC9.out HB9.out (by rw [betC, if_pos (Or.inr HBe.out)]), by rw [← HRe.out]; simp [intOf]; omega⟩
                  · rw [hb]
                    have HBe := Lib.hid hb
                    clear hb
                    go_wp2_with fail
                    refine ⟨⟨n + 1, by omega, by rw [← HRe.out]; omega, by push_cast; rfl, HC9.out, ?_⟩, by rw [← HRe.out]; simp [intOf]; omega⟩
                    rw [Nat.add_sub_cancel, HTN.out, betC, if_neg (by rw [HBe.out]; rintro (h | h); exact H0.out h; cases h)]
                    exact HB9.out
            · have hdec : decide ((n : Int) ≤ (R : Int)) = false := by simp; omega
              obtain rfl : n = R + 1 := by omega
              have HMS := Lib.hid (show modC cl (tabC l) m = tryC (tabC l) m R (modC cl (tabC l) (m - 1)) by
                obtain ⟨j, rfl⟩ : ∃ j, m = j + 1 := ⟨m - 1, by omega⟩
                rw [modC, HRe.out]; rfl)
              go_wp2_with fail
              exact ⟨⟨m + 1, by omega, by omega, by go_num, HCn.out, by rw [Nat.add_sub_cancel, HMS.out]; exact HXn.out⟩, by simp [intOf]; omega⟩
        · have hdec : decide ((m : Int) ≤ 4) = false := by simp; omega
          obtain rfl : m = 5 := by omega
          obtain ⟨⟨bl, bc, bt, bm⟩, hbe⟩ : ∃ x : Ch, x = modC cl (tabC l) (5 - 1) := ⟨_, rfl⟩
          rw [← hbe] at HXm
          have HBE := Lib.hid (show hdC (S.drop k) = ⟨bl, bc, bt, bm⟩ by rw [hbe, ← HCLe.out, HCL.out]; rfl)
          obtain ⟨y1, y2, y3, y4, -⟩ := HXm.out.cells
          obtain ⟨x1, x2, x3, x4, x5⟩ := HCm.out.tab.cell (i := k) (by rw [HSL.out]; omega)
          have hki3 : (k : Int) < (s.size : Int) + 1 := by omega
          have hlb := HXm.out.lt
          have hlt2 := HCm.out.tab.lt
          clear hbe
          go_wp2_with fail
          refine ⟨⟨k, by omega, by go_num, ?_⟩, by simp [intOf]⟩
          have hg := four_grown wr w.heap.size (k * 4) (k * 4 + 1) (k * 4 + 2) (k * 4 + 3) (.int .i64 bl) (.int .i64 bc) (.int .i64 bt) (.int .i64 bm)
          have h1 := HCm.out.gw
          have h2 := HCm.out.wf
          obtain ⟨C, t, k1, k2⟩ := HCm.out.wid
          have ht := HCm.out.tab.set (i := k) (by rw [HSL.out]; omega) ⟨bl, bc, bt, bm⟩
          refine ⟨ht.like (fun i hi => ?_), ⟨C, t, (hg.block _ (blkLt k1) (fun e => by have := Option.some.inj e; omega)).trans k1, k2⟩, (HCm.out.rch.kept (hg.block _ HCm.out.rch.lt (fun e => by have := Option.some.inj e; omega))).like (fun i _ _ => by rw [HCLe.out]), h1, h2, Nat.le_refl _, HCm.out.below.trans (below_of_grownBy hg HCm.out.below.size (fun j e => by have := Option.some.inj e; omega))⟩
          unfold tabF
          by_cases e : i = k
          · subst e; rw [if_neg (by omega), if_pos rfl, HBE.out]
          · rw [if_neg e]
            by_cases h : i < k
            · rw [if_pos h, if_pos (by omega)]
            · rw [if_neg h, if_neg (by omega)]

end Go.Proofs.YtlcglclojlffgaaGreat
