import Derived.Test.YtlcglclojlffgaaGreatDoorL4
import Derived.Test.YtlcglclojlffgaaGreatDoorL1
import Derived.Test.YtlcglclojlffgaaGreatDoorL0
import Derived.Test.YtlcglclojlffgaaGreatDoorL3
import Derived.Test.YtlcglclojlffgaaGreatDoorL2
import Derived.Laws.AppendOwnNone
import Derived.Deep.RegionHeld3
import Derived.Laws.EntriesVeiled
namespace Go.Proofs.YtlcglclojlffgaaGreatDoor
open Go.RowKit

/-- what an append of one family leaves -/
theorem append_run (W : World) (ty : TypeId) (base : Nat) (v : Value) (xs : List FmR) (y : FmR) (hown : fmE.Own W base v xs) (g : Nat) (C : Array Value)
    (hg : W.heap[g]? = some (.cells C 123 (0, 0))) (hC : C.toList = fmE.enc y) (hl : xs.length ≤ 1000000000) (hb : base ≤ W.heap.size) :
    ∃ v9 w9, (Builtin.append_ #[141, 141] ty #[v, .slice (some ⟨g, 0, none⟩) 1 1]).run Tryz.prog W = .ok v9 w9 ∧ fmE.Own w9 base v9 (xs ++ [y]) ∧ W.grownBy w9 v.ownBlock ∧ Below base W w9 := by
  obtain ⟨i0, hi, y0, y1, y2⟩ := info_parts infoFm
  obtain ⟨v9, w9, h1, h2, h3, -⟩ := run_append_own (P := Tryz.prog) W base 141 ty 123 i0 _ 8 104 Tryz.underlying141 hi y0 y1 y2 rfl (by decide) v xs.length (xs.flatMap fmE.enc) hown ⟨g, 0, none⟩ 1 1 (fmE.enc y) rfl (fmE.new_at hg hC) (fmE.one y) (by unfold maxLen; omega) (by omega) hb
  exact ⟨v9, w9, h1, Enc.Own.snoc h2, h3, below_of_grownBy h3 hb (fun k hk => hown.lo k hk)⟩

theorem append_leaves {P : Program} {o : Oper} {a : Act} {W : World} {R : Value → World → Prop} (s x : Operand) (t : TypeId) (ho : o.op = .call { callee := .builtin .append, args := #[s, x], argTypes := #[t, t] })
    {v sl v9 : Value} {w9 : World} (hs : a.eval s = v) (hx : a.eval x = sl) (hr : (Builtin.append_ #[t, t] o.type #[v, sl]).run P W = .ok v9 w9) (h : R v9 w9) : leaves P o a W R := by
  unfold leaves execOp
  simp only [ho, resolve, invoke, builtin, Sem.run_bind, Sem.run_pure, Result.andThen_ok, List.map_toArray, List.map_cons, List.map_nil, hs, hx, hr]
  exact h
def spT (p : Value → Prop) : Sp (fun _ _ : World => True) := ⟨fun u _ => p u, fun _ _ _ _ h => h⟩
def St3 (W0 W1 w9 : World) (L : Nat → Bool) (W : World) : Prop :=
  (L 13 = true → L 12 = true) ∧ ((L 12 = false ∧ W = W0) ∨ (L 12 = true ∧ L 13 = false ∧ W = W1) ∨ (L 13 = true ∧ W = w9))
theorem St3.any {W0 W1 w9 : World} {L : Nat → Bool} {W : World} (h : St3 W0 W1 w9 L W) : W = W0 ∨ W = W1 ∨ W = w9 := by
  rcases h.2 with h | h | h
  · exact .inl h.2
  · exact .inr (.inl h.2.2)
  · exact .inr (.inr h.2)
theorem St3.same {W0 W1 w9 : World} {L : Nat → Bool} {W : World} (h : St3 W0 W1 w9 L W) (i : Nat) (hi : i ≠ 12) (hj : i ≠ 13) : St3 W0 W1 w9 (fun j => L j || i == j) W := by
  have e1 : (i == 12) = false := by simpa using hi
  have e2 : (i == 13) = false := by simpa using hj
  simpa only [St3, e1, e2, Bool.or_false] using h
set_option maxRecDepth 100000 in
set_option maxHeartbeats 2000000 in
/-- the closure 'add' of '(*shelf).build' -/
theorem addFm_any (b0 b base : Nat) (T0 T : TypeId) (v : Value) (xs : List FmR) (y : FmR) (S k g : Nat) (hS : S = 2 ^ k) (hL : Least k g) (hy : y.f.fp = 2 ∧ y.f.fk = k ∧ y.f.fg = g) (w : World)
    (h0 : w.heap[b0]? = some (.cells #[.pointer (some ⟨b, 0, none⟩)] T0 (0, 0))) (h1 : OnceAt w b 0 1 v T) (hb0 : b0 < base) (hb : b < base) (_hbb : b0 ≠ b) (hbase : base ≤ w.heap.size) (ho : fmE.Own w base v xs) (hl : xs.length ≤ 100) :
    Calls Tryz.prog 202 #[.string y.f.name, .int .i64 y.f.kind, .int .i64 S, .int .i64 y.f.cols, .slice (some ⟨y.b1, 0, none⟩) y.f.sizes.length y.f.sizes.length, .slice (some ⟨y.b2, 0, none⟩) y.f.levels.length y.f.levels.length, .pointer (some ⟨b0, 0, none⟩)] w
      fun e w' => e = .returned (.tuple #[]) ∧ ∃ v', fmE.Own w' base v' (xs ++ [y]) ∧ OnceAt w' b 0 1 v' T ∧ Below 0 w w' ∧ w.heap.size ≤ w'.heap.size ∧ ∀ j, j < w.heap.size → j ≠ b → v.ownBlock ≠ some j → w'.heap[j]? = w.heap[j]? := by
  obtain ⟨y1, y2, y3⟩ := hy
  have HF := Lib.hid (fieldOf_any S k g hS hL w)
  have H0 := Lib.hid h0
  have H1 := Lib.hid h1
  have HO := Lib.hid ho
  clear hS hL h0 h1 ho
  go_enter Tryz.func202, Tryz.ntmps202
  go_wp2_with fail
  refine HF.out.mono ?_
  rintro e w1 ⟨rfl, hb1⟩
  go_wp2_with fail
  have hz := push_at w1 (.cells #[.int .i64 2, .int .i64 k, .int .i64 g] 121 (0, 0))
  have hz1 := ba1 w1 (.cells #[.int .i64 2, .int .i64 k, .int .i64 g] 121 (0, 0))
  try generalize w1.alloc (.cells #[.int .i64 2, .int .i64 k, .int .i64 g] 121 (0, 0)) = w2 at hz hz1 ⊢
  have hB : Below w.heap.size w w2.drew := (hb1.trans (hz1.mono hb1.size)).drew
  obtain ⟨q, hq⟩ : ∃ q, q = w1.heap.size := ⟨_, rfl⟩
  have hqw : w.heap.size ≤ q := by rw [hq]; exact hb1.size
  rw [← hq] at hz ⊢
  clear hq hz1 hb1
  obtain ⟨W0, hW0⟩ : ∃ W0, W0 = w2.drew := ⟨_, rfl⟩
  have hz0 : W0.heap[q]? = some (.cells #[.int .i64 2, .int .i64 k, .int .i64 g] 121 (0, 0)) := by rw [hW0]; exact hz
  have HW0 := Lib.hid hW0
  rw [← hW0] at hB
  clear hz hW0
  obtain ⟨C, hC⟩ : ∃ C : Array Value, C = #[.string y.f.name, .int .i64 y.f.kind, .int .i64 2, .int .i64 k, .int .i64 g, .slice (some ⟨y.b1, 0, none⟩) y.f.sizes.length y.f.sizes.length, .int .i64 y.f.cols, .slice (some ⟨y.b2, 0, none⟩) y.f.levels.length y.f.levels.length] := ⟨_, rfl⟩
  obtain ⟨W1, hW1⟩ : ∃ W1, W1 = W0.alloc (.cells C 123 (0, 0)) := ⟨_, rfl⟩
  have hB01 : Below W0.heap.size W0 W1 := by rw [hW1]; exact ba1 _ _
  have hB1 : Below w.heap.size w W1 := hB.trans (hB01.mono hB.size)
  have hg1 : W1.heap[W0.heap.size]? = some (.cells C 123 (0, 0)) := by rw [hW1]; exact push_at _ _
  have ho1 : fmE.Own W1 base v xs := HO.out.grown hB1
  have hs1 := hB1.size
  have hs0 := hB.size
  have hs01 := hB01.size
  obtain ⟨v9, w9, hr, ho9, hgr, hb9⟩ := append_run W1 141 base v xs y ho1 W0.heap.size C hg1 (by rw [hC]; simp [fmE, y1, y2, y3]) (by omega) (by omega)
  have hqlt : q < W0.heap.size := blkLt hz0
  have hown : ∀ j, v.ownBlock = some j → j < w.heap.size := fun j e => HO.out.hi j e
  have HC := Lib.hid (show ∀ W, (W = W0 ∨ W = W1 ∨ W = w9) → W.heap[b0]? = some (.cells #[.pointer (some ⟨b, 0, none⟩)] T0 (0, 0)) ∧ OnceAt W b 0 1 v T ∧ W.heap[q]? = some (.cells #[.int .i64 2, .int .i64 k, .int .i64 g] 121 (0, 0)) by
    have h1a := (hB1.block b0 (by omega)).trans H0.out
    have h1b := (hB1.block b (by omega)).trans H1.out
    have h1q := (hB01.block q hqlt).trans hz0
    rintro W (rfl | rfl | rfl)
    · exact ⟨(hB.block b0 (by omega)).trans H0.out, (hB.block b (by omega)).trans H1.out, hz0⟩
    · exact ⟨h1a, h1b, h1q⟩
    · exact ⟨(hb9.block b0 hb0).trans h1a, (hb9.block b hb).trans h1b, (hgr.block q (by omega) (fun e => by have := hown q e.symm; omega)).trans h1q⟩)
  have HR := Lib.hid hr
  have HW1 := Lib.hid hW1
  have HCC := Lib.hid hC
  clear hr hW1 hC hz0 hB01 hg1 ho1
  refine wp_region_once [20, 21, 22, 23, 24, 25, 26, 27, 28, 29, 30, 31, 32, 33] (fun us => _)
    [spT (· = .pointer (some ⟨b, 0, none⟩)), spT (· = .pointer (some ⟨b, 0, none⟩)), spT (· = .pointer (some ⟨b, 0, none⟩)), spT (· = .pointer (some ⟨b, 3, none⟩)), spT (· = v), spT (· = .string y.f.name), spT (· = .int .i64 y.f.kind), spT (· = .agg #[.int .i64 2, .int .i64 k, .int .i64 g]),
     spT (· = .slice (some ⟨y.b1, 0, none⟩) y.f.sizes.length y.f.sizes.length), spT (· = .int .i64 y.f.cols), spT (· = .slice (some ⟨y.b2, 0, none⟩) y.f.levels.length y.f.levels.length), spT (· = .agg C), spT (· = .slice (some ⟨W0.heap.size, 0, none⟩) 1 1), spT (· = v9)]
    (St3 W0 W1 w9) (by kernel_rfl) (by kernel_rfl) (Nat.le_of_ble_eq_true rfl) (fun us => by simp [over, List.mapIdx_cons]; exact rfl) ⟨fun h => by simp at h, .inl ⟨rfl, HW0.out.symm⟩⟩ (fun _ => trivial) ?_ ?_
  · refine ⟨?_, ?_, ?_, ?_, ?_, ?_, ?_, ?_, ?_, ?_, ?_, ?_, ?_, ?_, trivial⟩
    all_goals (intro us W L hL hst hd; refine ⟨by kernel_rfl, wp_of_leaves (R := fun v w' => _) (fun v w' h => ⟨v, rfl, h⟩) ?_⟩; dsimp only)
    · have hc := (heap_cellR (HC.out W hst.any).1).1
      clear hd
      go_simp
      exact ⟨hst.same 0 (by decide) (by decide), rfl⟩
    · have hc := (heap_cellR (HC.out W hst.any).1).1
      clear hd
      go_simp
      exact ⟨hst.same 1 (by decide) (by decide), rfl⟩
    · have d21 : us 21 = (.pointer (some ⟨b, 0, none⟩)) := (hd ⟨1, .data⟩ (by simp) rfl).2
      clear hd
      go_simp
      exact ⟨hst.same 2 (by decide) (by decide), rfl⟩
    · have d22 : us 22 = (.pointer (some ⟨b, 0, none⟩)) := (hd ⟨2, .data⟩ (by simp) rfl).2
      clear hd
      go_simp
      exact ⟨hst.same 3 (by decide) (by decide), rfl⟩
    · have d23 : us 23 = (.pointer (some ⟨b, 3, none⟩)) := (hd ⟨3, .data⟩ (by simp) rfl).2
      have hc := (HC.out W hst.any).2.1.cells.2.2.1
      clear hd
      go_simp
      exact ⟨hst.same 4 (by decide) (by decide), rfl⟩
    · clear hd
      go_simp
      exact ⟨hst.same 5 (by decide) (by decide), rfl⟩
    · clear hd
      go_simp
      exact ⟨hst.same 6 (by decide) (by decide), rfl⟩
    · have hc := (heap_cellR (HC.out W hst.any).2.2).1
      clear hd
      go_simp
      exact ⟨hst.same 7 (by decide) (by decide), rfl⟩
    · clear hd
      go_simp
      exact ⟨hst.same 8 (by decide) (by decide), rfl⟩
    · clear hd
      go_simp
      exact ⟨hst.same 9 (by decide) (by decide), rfl⟩
    · clear hd
      go_simp
      exact ⟨hst.same 10 (by decide) (by decide), rfl⟩
    · have d25 : us 25 = (.string y.f.name) := (hd ⟨5, .data⟩ (by simp) rfl).2
      have d26 : us 26 = (.int .i64 y.f.kind) := (hd ⟨6, .data⟩ (by simp) rfl).2
      have d27 : us 27 = (.agg #[.int .i64 2, .int .i64 k, .int .i64 g]) := (hd ⟨7, .data⟩ (by simp) rfl).2
      have d28 : us 28 = (.slice (some ⟨y.b1, 0, none⟩) y.f.sizes.length y.f.sizes.length) := (hd ⟨8, .data⟩ (by simp) rfl).2
      have d29 : us 29 = (.int .i64 y.f.cols) := (hd ⟨9, .data⟩ (by simp) rfl).2
      have d30 : us 30 = (.slice (some ⟨y.b2, 0, none⟩) y.f.levels.length y.f.levels.length) := (hd ⟨10, .data⟩ (by simp) rfl).2
      rw [HCC.out]
      clear hd
      go_simp
      exact ⟨hst.same 11 (by decide) (by decide), rfl⟩
    · have d31 : us 31 = (.agg C) := (hd ⟨11, .data⟩ (by simp) rfl).2
      have e0 : W = W0 := by
        rcases hst.2 with h | h | h
        · exact h.2
        · rw [h.1] at hL; cases hL
        · rw [hst.1 h.1] at hL; cases hL
      have e13 : L 13 = false := by
        cases h : L 13
        · rfl
        · rw [hst.1 h] at hL; cases hL
      subst e0
      clear hd
      rw [HCC.out] at d31
      go_simp
      rw [← HCC.out, ← HW1.out]
      exact ⟨⟨fun h => by simp [e13] at h, .inr (.inl ⟨by simp, by simp [e13], rfl⟩)⟩, rfl⟩
    · have d24 : us 24 = (v) := (hd ⟨4, .data⟩ (by simp) rfl).2
      have d32 : us 32 = (.slice (some ⟨W0.heap.size, 0, none⟩) 1 1) := (hd ⟨12, .data⟩ (by simp) rfl).2
      have l12 : L 12 = true := (hd ⟨12, .data⟩ (by simp) rfl).1
      have e0 : W = W1 := by
        rcases hst.2 with h | h | h
        · rw [h.1] at l12; cases l12
        · exact h.2.2
        · rw [h.1] at hL; cases hL
      subst e0
      clear hd
      exact append_leaves (.tmp 24) (.tmp 32) 141 rfl ((show _ = us 24 from rfl).trans d24) ((show _ = us 32 from rfl).trans d32) HR.out ⟨⟨fun _ => by simp [l12], .inr (.inr ⟨by simp, rfl⟩)⟩, trivial, rfl⟩
  · intro us W L hL hst hd
    have d20 : us 20 = .pointer (some ⟨b, 0, none⟩) := hd 0 (by simp)
    have d33 : us 33 = v9 := hd 13 (by simp)
    have e0 : W = w9 := by
      rcases hst.2 with h | h | h
      · rw [hL 12 (by simp)] at h; cases h.1
      · rw [hL 13 (by simp)] at h; cases h.2.1
      · exact h.2
    subst e0
    clear hd hL hst
    simp only [List.drop, List.length]
    rw [d20, d33]
    obtain ⟨g0, g1, -⟩ := HC.out W (.inr (.inr rfl))
    have G1 := Lib.hid g1
    have hc3 := g1.cells.2.2.1
    have hf3 := g1.cells.2.2.2.1 3
    clear g1
    obtain ⟨a9, c9, rfl⟩ := ho9.read
    go_wp2_with fail
    go_end0
    have hl9 : (xs ++ [y]).length = xs.length + 1 := by simp
    refine ⟨rfl, .slice a9 (xs.length + 1) c9, ?_, src_set G1.out 3 _, ((hB1.mono (Nat.zero_le _)).trans (hb9.mono (Nat.zero_le _))).setCell (Nat.zero_le _) _, ?_, ?_⟩
    · rw [hl9] at ho9
      exact Enc.Own.src ho9 hb (grownBy_set _ _ _ _)
    · have h1 := hgr.size
      have h2 := (grownBy_set W b 3 (.slice a9 (xs.length + 1) c9)).size
      omega
    · intro j hj hjb hjo
      exact (heap_setCell_other _ ⟨b, 3, none⟩ j _ (fun e => hjb e)).trans ((hgr.block j (by omega) (fun e => hjo e.symm)).trans (hB1.block j hj))

end Go.Proofs.YtlcglclojlffgaaGreatDoor
namespace Go.Proofs.YtlcglclojlffgaaGreatDoor
open Go.RowKit

set_option maxRecDepth 100000 in
theorem least4 : Least 4 19 := by
  refine ⟨by decide, by decide, by decide, by decide, by decide +kernel, fun p h1 h2 => ?_⟩
  have h3 : p = 16 ∨ p = 17 ∨ p = 18 := by omega
  rcases h3 with rfl | rfl | rfl <;> decide +kernel
set_option maxRecDepth 100000 in
theorem least6 : Least 6 67 := by
  refine ⟨by decide, by decide, by decide, by decide, by decide +kernel, fun p h1 h2 => ?_⟩
  have h3 : p = 64 ∨ p = 65 ∨ p = 66 := by omega
  rcases h3 with rfl | rfl | rfl <;> decide +kernel
set_option maxRecDepth 100000 in
theorem least8_below : ∀ j : Fin 29, fldB 2 8 ((256 + j.val : Nat) : Int) = false := by decide +kernel
set_option maxRecDepth 100000 in
theorem least8 : Least 8 285 := by
  refine ⟨by decide, by decide, by decide, by decide, by decide +kernel, fun p h1 h2 => ?_⟩
  have h1' : 256 ≤ p := h1
  have h := least8_below ⟨p - 256, by omega⟩
  rwa [show 256 + (p - 256) = p by omega] at h
set_option maxHeartbeats 400000 in
theorem spPrime_even (n : Int) (w : World) (h1 : 4 ≤ n) (h2 : n ≤ 100000) (h3 : n % 2 = 0) :
    Calls Tryz.prog 119 #[.int .i64 n] w fun e w' => e = .returned (.bool false) ∧ w = w' := by
  have hd : decide (n < 2) = false := by simp; omega
  have he : (n % 2 == 0) = true := by rw [beq_iff_eq]; exact h3
  have he2 : n.tmod 2 = 0 := by rw [Int.tmod_eq_emod_of_nonneg (by omega)]; exact h3
  clear h3
  go_enter Tryz.func119, Tryz.ntmps119
  go_wp2_with fail
  go_loopw [3] (fun i wr => i = .int .i64 2 ∧ wr = w) (fun i _ => (intOf i).toNat)
  case atStart => exact ⟨rfl, rfl⟩
  case round =>
    obtain ⟨rfl, rfl⟩ := hrel
    go_wp2_with fail
    go_ret
    exact ⟨rfl, rfl⟩
set_option maxRecDepth 100000 in
set_option maxHeartbeats 1000000 in
theorem spFieldOf_any (S k g : Nat) (hS : S = 2 ^ k) (h : Least k g) (w : World) :
    Calls Tryz.prog 103 #[.int .i64 S] w fun e w' => e = .returned (.tuple #[.agg #[.int .i64 2, .int .i64 k, .int .i64 g], .int .i64 0]) ∧ Below w.heap.size w w' := by
  obtain ⟨h4, h8, hg1, hg2, hgt, hgl⟩ := h
  have hs16 : 2 ^ 4 ≤ 2 ^ k := Nat.pow_le_pow_right (by omega) h4
  have hs256 : 2 ^ k ≤ 2 ^ 8 := Nat.pow_le_pow_right (by omega) h8
  have hev : (S : Int) % 2 = 0 := by
    obtain ⟨j, rfl⟩ : ∃ j, k = j + 1 := ⟨k - 1, by omega⟩
    rw [hS, Nat.pow_succ]; omega
  have HE := Lib.hid hev
  rw [← hS] at hs16 hs256 hg1 hg2 hgl
  have HS := Lib.hid hS
  have HT := Lib.hid hgt
  have HL := Lib.hid hgl
  have hin : inB (S : Int) 3 1021 = true := inB_iff.2 (by omega)
  clear hev hS hgt hgl
  go_enter Tryz.func103, Tryz.ntmps103
  go_wp2_with fail
  have hz := push_at w (.cells #[.int .i64 0, .int .i64 0, .int .i64 0] 121 (0, 0))
  have HB0 := Lib.hid (ba1 w (.cells #[.int .i64 0, .int .i64 0, .int .i64 0] 121 (0, 0)))
  obtain ⟨w1, hw1⟩ : ∃ w1, w1 = w.alloc (.cells #[.int .i64 0, .int .i64 0, .int .i64 0] 121 (0, 0)) := ⟨_, rfl⟩
  rw [← hw1] at hz HB0 ⊢
  have HX1 := Lib.hid hz
  clear hw1 hz
  refine (spIn_any (S : Int) 3 1021 w1).mono ?_
  rintro e w2 ⟨rfl, rfl⟩
  rw [hin]
  go_wp2_with fail
  refine (spPrime_even (S : Int) w1 (by omega) (by omega) HE.out).mono ?_
  rintro e w2 ⟨rfl, rfl⟩
  go_wp2_with fail
  go_loopw [3, 6, 7, 8] (fun _ i _ _ wr => ∃ q : Nat, 3 ≤ q ∧ q ≤ k ∧ i = .int .i64 q ∧ wr = w1) (fun _ i _ _ _ => k - (intOf i).toNat)
  case atStart => exact ⟨3, by omega, by omega, rfl, rfl⟩
  case round =>
    obtain ⟨q, hq1, hq2, rfl, rfl⟩ := hrel
    obtain ⟨P, hP⟩ : ∃ P : Nat, P = 2 ^ q := ⟨_, rfl⟩
    have hPb : P ≤ S := by rw [hP, HS.out]; exact Nat.pow_le_pow_right (by omega) hq2
    have hw : wrap64 ((2 : Int) ^ q) = (P : Int) := by
      have hc : ((2 : Int) ^ q) = ((2 ^ q : Nat) : Int) := by push_cast; rfl
      rw [hc, ← hP]; unfold wrap64; omega
    have hk8 : (q : Int) ≤ 8 := by omega
    by_cases hlt : q < k
    · have hne : P < S := by rw [hP, HS.out]; exact Nat.pow_lt_pow_right (by omega) hlt
      have hb : (((S : Nat) : Int) != (P : Int)) = true := by rw [bne_iff_ne]; omega
      clear hP
      go_wp2_with fail
      exact ⟨⟨q + 1, by omega, by omega, by go_num, trivial⟩, by simp [intOf]; omega⟩
    · obtain rfl : q = k := by omega
      have hPS : P = S := by rw [hP, HS.out]
      subst hPS
      have hb : (((P : Nat) : Int) != (P : Int)) = false := by simp
      have hlt0 := blkLt HX1.out
      obtain ⟨W, hW⟩ : ∃ W : World, W = wr := ⟨_, rfl⟩
      subst hW
      clear hP
      go_wp2_with fail
      go_loopw [3, 7, 8] (fun _ p _ wq => ∃ d : Nat, P ≤ d ∧ d ≤ g ∧ p = .int .i64 d ∧ Below W.heap.size W wq) (fun _ p _ _ => g + 1 - (intOf p).toNat)
      case atStart => exact ⟨P, Nat.le_refl _, hg1, rfl, Below.refl _ _⟩
      case round =>
        obtain ⟨d, hd1, hd2, rfl, hb2⟩ := hrel
        clear hw
        have HB := Lib.hid hb2
        have hlt2 : decide ((d : Int) < 2 * (P : Int)) = true := by simp; omega
        clear hb2
        by_cases hpg : d < g
        · have HF := Lib.hid (show fldB 2 (q : Int) (d : Int) = false from HL.out d hd1 hpg)
          go_wp2_with fail
          refine (spField_bin _ _ _ (by omega) _).mono ?_
          rw [HF.out]
          rintro e w2 ⟨rfl, hb3⟩
          have HB2 := Lib.hid (bt0 HB.out (bt1 hb3) (Nat.le_refl _))
          clear hb3
          go_wp2_with fail
          exact ⟨⟨d + 1, by omega, by omega, by go_num, HB2.out⟩, by simp [intOf]; omega⟩
        · obtain rfl : d = g := by omega
          go_wp2_with fail
          refine (spField_bin _ _ _ (by omega) _).mono ?_
          rw [show fldB 2 (q : Int) (d : Int) = true from HT.out]
          rintro e w2 ⟨rfl, hb3⟩
          obtain ⟨hx, hf⟩ := heap_cellR (blkK hb3 (push_at wr (.cells #[.int .i64 2, .int .i64 (q : Int), .int .i64 (d : Int)] 121 (0, 0))))
          have HB2 := Lib.hid (bt0 HB.out (bt1 hb3) (Nat.le_refl _))
          obtain ⟨hr0, hf0⟩ := heap_cellR (blk HB2.out HX1.out hlt0)
          clear hb3
          go_wp2_with fail
          refine bodyPost_ret (v := .tuple #[.agg #[.int .i64 2, .int .i64 (q : Int), .int .i64 (d : Int)], .int .i64 0]) (by simp [results, Tryz.results103, go_sem, hr0]) rfl ⟨rfl, ?_⟩
          iterate 3 (refine Below.setCell ?_ (by dsimp only; omega) _)
          exact HB0.out.trans (HB2.out.mono HB0.out.size)

end Go.Proofs.YtlcglclojlffgaaGreatDoor
namespace Go.Proofs.YtlcglclojlffgaaGreatDoor
open Go.RowKit

/-- a block of numbers -/
def IntBlk (W : World) (b : Nat) (l : List Int) : Prop := W.heap[b]? = some (.cells (l.map (Value.int .i64)).toArray 2 (0, 0))
/-- the families' own row is no block of numbers -/
theorem own_ne_ints {W : World} {base : Nat} {v : Value} {xs : List FmR} {b : Nat} {l : List Int} (h : fmE.Own W base v xs) (hb : IntBlk W b l) : v.ownBlock ≠ some b := by
  intro e
  rcases h.2 with ⟨rfl, -⟩ | ⟨g, cap, cur, rfl, -, hg, -⟩
  · simp [Value.ownBlock] at e
  · simp only [Value.ownBlock, Option.some.injEq] at e
    subst e
    rw [hb] at hg
    simp only [Option.some.injEq, Obj.cells.injEq] at hg
    exact absurd hg.2.1 (by decide)
/-- the library while it is built -/
structure LibSt (w : World) (b0 b base : Nat) (T0 T : TypeId) (v : Value) (xs : List FmR) (W : World) : Prop where
  box : W.heap[b0]? = some (.cells #[.pointer (some ⟨b, 0, none⟩)] T0 (0, 0))
  once : OnceAt W b 0 1 v T
  own : fmE.Own W base v xs
  ints : ∀ y ∈ xs, IntBlk W y.b1 y.f.sizes ∧ IntBlk W y.b2 y.f.levels ∧ y.b1 ≠ b ∧ y.b2 ≠ b
  size : base ≤ W.heap.size
  low : Below 0 w W
  keep : ∀ j, j < base → j ≠ b → W.heap[j]? = w.heap[j]?

abbrev intsO (l : List Int) : Obj := .cells (l.map (Value.int .i64)).toArray 2 (0, 0)
theorem LibSt.step {w W W2 w' : World} {b0 b base : Nat} {T0 T : TypeId} {v v' : Value} {xs : List FmR} {y : FmR} (h : LibSt w b0 b base T0 T v xs W) (hb0 : b0 < base) (hb : b < base) (hbb : b0 ≠ b)
    (hy1 : y.b1 = W.heap.size) (hy2 : y.b2 = W.heap.size + 1) (hW2 : W2 = (W.alloc (intsO y.f.sizes)).alloc (intsO y.f.levels))
    (ho : fmE.Own w' base v' (xs ++ [y])) (h1 : OnceAt w' b 0 1 v' T) (hw : Below 0 W2 w') (hs : W2.heap.size ≤ w'.heap.size) (hk : ∀ j, j < W2.heap.size → j ≠ b → v.ownBlock ≠ some j → w'.heap[j]? = W2.heap[j]?) : LibSt w b0 b base T0 T v' (xs ++ [y]) w' := by
  have hB : Below W.heap.size W W2 := by rw [hW2]; exact ba2 _ _ _
  have h2 := heap2 W (intsO y.f.sizes) (intsO y.f.levels)
  rw [← hW2] at h2
  have hz : W2.heap.size = W.heap.size + 2 := by rw [hW2]; simp
  have hsz := h.size
  have hlo : ∀ j, j < base → v.ownBlock ≠ some j := fun j hj e => by have := h.own.lo j e; omega
  have hhi : ∀ j, W.heap.size ≤ j → v.ownBlock ≠ some j := fun j hj e => by have := h.own.hi j e; omega
  refine ⟨(hk b0 (by omega) hbb (hlo b0 hb0)).trans ((hB.block b0 (by omega)).trans h.box), h1, ho, ?_, by omega, (h.low.trans (hB.mono (Nat.zero_le _))).trans hw, fun j hj hjb => (hk j (by omega) hjb (hlo j hj)).trans ((hB.block j (by omega)).trans (h.keep j hj hjb))⟩
  intro z hz'
  rcases List.mem_append.1 hz' with hm | hm
  · obtain ⟨i1, i2, n1, n2⟩ := h.ints z hm
    have l1 := blkLt i1
    have l2 := blkLt i2
    exact ⟨(hk _ (by omega) n1 (own_ne_ints h.own i1)).trans ((hB.block _ l1).trans i1), (hk _ (by omega) n2 (own_ne_ints h.own i2)).trans ((hB.block _ l2).trans i2), n1, n2⟩
  · obtain rfl : z = y := by simpa using hm
    refine ⟨?_, ?_, by omega, by omega⟩
    · unfold IntBlk
      rw [hy1]
      exact (hk _ (by omega) (by omega) (hhi _ (Nat.le_refl _))).trans h2.1
    · unfold IntBlk
      rw [hy2]
      exact (hk _ (by omega) (by omega) (hhi _ (by omega))).trans h2.2

/-- one family more -/
theorem LibSt.call {w W : World} {b0 b base : Nat} {T0 T : TypeId} {v : Value} {xs : List FmR} (h : LibSt w b0 b base T0 T v xs W) (hb0 : b0 < base) (hb : b < base) (hbb : b0 ≠ b) (hl : xs.length ≤ 100)
    (f : Fam) (S k g : Nat) (hS : S = 2 ^ k) (hL : Least k g) (hf : f.fp = 2 ∧ f.fk = k ∧ f.fg = g) :
    Calls Tryz.prog 202 #[.string f.name, .int .i64 f.kind, .int .i64 S, .int .i64 f.cols, .slice (some ⟨W.heap.size, 0, none⟩) f.sizes.length f.sizes.length, .slice (some ⟨W.heap.size + 1, 0, none⟩) f.levels.length f.levels.length, .pointer (some ⟨b0, 0, none⟩)] ((W.alloc (intsO f.sizes)).alloc (intsO f.levels))
      fun e w' => e = .returned (.tuple #[]) ∧ ∃ v', LibSt w b0 b base T0 T v' (xs ++ [⟨f, W.heap.size, W.heap.size + 1⟩]) w' := by
  have hB := ba2 W (intsO f.sizes) (intsO f.levels)
  have hsz := h.size
  have hz : ((W.alloc (intsO f.sizes)).alloc (intsO f.levels)).heap.size = W.heap.size + 2 := by simp
  refine (addFm_any b0 b base T0 T v xs ⟨f, W.heap.size, W.heap.size + 1⟩ S k g hS hL hf _ ((hB.block b0 (by omega)).trans h.box) ((hB.block b (by omega)).trans h.once) hb0 hb hbb (by omega) (h.own.grown hB) hl).mono ?_
  rintro e w' ⟨rfl, v', ho, h1, hw, hs, hk⟩
  exact ⟨rfl, v', h.step hb0 hb hbb rfl rfl rfl ho h1 hw hs hk⟩

end Go.Proofs.YtlcglclojlffgaaGreatDoor
namespace Go.Proofs.YtlcglclojlffgaaGreatDoor
open Go.RowKit

set_option maxRecDepth 100000 in
set_option maxHeartbeats 2000000 in
/-- '(*shelf).build' -/
theorem build_any (b : Nat) (T : TypeId) (w : World) (h : OnceAt w b 0 1 (.slice none 0 0) T) :
    Calls Tryz.prog 186 #[.pointer (some ⟨b, 0, none⟩)] w fun e w' => e = .returned (.tuple #[]) ∧
      ∃ v xs w1, LibSt w1 w.heap.size b (w.heap.size + 1) 234 T v xs w' ∧ xs.map FmR.f = libF ∧ Below w.heap.size w w1 := by
  have hlt : b < w.heap.size := h.cells.2.2.2.2
  obtain ⟨w1, hw1⟩ : ∃ w1, w1 = w.alloc (.cells #[.pointer (some ⟨b, 0, none⟩)] 234 (0, 0)) := ⟨_, rfl⟩
  have HB := Lib.hid (show Below w.heap.size w w1 by rw [hw1]; exact ba1 _ _)
  have hz : w1.heap.size = w.heap.size + 1 := by rw [hw1]; simp
  have HS0 := Lib.hid (show LibSt w1 w.heap.size b (w.heap.size + 1) 234 T (.slice none 0 0) [] w1 from
    ⟨by rw [hw1]; exact push_at _ _, (HB.out.block b hlt).trans h, Enc.Own.nil _ _ _, fun _ h => by simp at h, by omega, Below.refl _ _, fun _ _ _ => rfl⟩)
  have HW1 := Lib.hid hw1
  clear hw1 h
  go_enter Tryz.func186, Tryz.ntmps186
  go_wp2_with fail
  have c0 := HS0.out.call (by omega) (by omega) (by omega) (by decide) (libF[0]'(by decide)) 16 4 19 rfl least4 ⟨rfl, rfl, rfl⟩
  rw [hz, HW1.out] at c0
  refine c0.mono ?_
  clear c0
  rintro e w2 ⟨rfl, v1, h1⟩
  have HS1 := Lib.hid h1
  clear h1
  go_wp2_with fail
  refine (HS1.out.call (by omega) (by omega) (by omega) (by simp) (libF[1]'(by decide)) 64 6 67 rfl least6 ⟨rfl, rfl, rfl⟩).mono ?_
  rintro e w3 ⟨rfl, v2, h2⟩
  have HS2 := Lib.hid h2
  clear h2
  go_wp2_with fail
  refine (HS2.out.call (by omega) (by omega) (by omega) (by simp) (libF[2]'(by decide)) 256 8 285 rfl least8 ⟨rfl, rfl, rfl⟩).mono ?_
  rintro e w4 ⟨rfl, v3, h3⟩
  have HS3 := Lib.hid h3
  clear h3
  go_wp2_with fail
  refine (HS3.out.call (by omega) (by omega) (by omega) (by simp) (libF[3]'(by decide)) 32 5 37 rfl least5 ⟨rfl, rfl, rfl⟩).mono ?_
  rintro e w5 ⟨rfl, v4, h4⟩
  have HS4 := Lib.hid h4
  clear h4
  go_wp2_with fail
  refine (HS4.out.call (by omega) (by omega) (by omega) (by simp) (libF[4]'(by decide)) 32 5 37 rfl least5 ⟨rfl, rfl, rfl⟩).mono ?_
  rintro e w6 ⟨rfl, v5, h5⟩
  have HS5 := Lib.hid h5
  clear h5
  go_wp2_with fail
  go_end0
  have H5 := HS5.out
  rw [← HW1.out] at H5
  exact ⟨rfl, v5, _, w1, H5, rfl, HB.out⟩

end Go.Proofs.YtlcglclojlffgaaGreatDoor
namespace Go.Proofs.YtlcglclojlffgaaGreatDoor
open Go.RowKit

set_option maxRecDepth 100000 in
set_option maxHeartbeats 2000000 in
/-- 'Library' -/
theorem library_any (w : World) :
    Calls Tryz.prog 178 #[] w fun e w' => ∃ v xs, e = .returned v ∧ xs.map FmR.f = libF ∧ fmE.Own w' w.heap.size v xs ∧ (∀ y ∈ xs, IntBlk w' y.b1 y.f.sizes ∧ IntBlk w' y.b2 y.f.levels) ∧ Below w.heap.size w w' := by
  obtain ⟨W, hW⟩ : ∃ W, W = w.alloc (.cells #[.int .u32 0, .int .i32 0, .int .u32 0, .slice none 0 0] 247 (0, 0)) := ⟨_, rfl⟩
  have h0 : OnceAt W w.heap.size 0 0 (.slice none 0 0) 247 := by rw [hW]; exact push_at _ _
  have hB : Below w.heap.size w W := by rw [hW]; exact ba1 _ _
  have hz : W.heap.size = w.heap.size + 1 := by rw [hW]; simp
  have h1 : OnceAt (W.setCell ⟨w.heap.size, 1, none⟩ (.int .i32 1)) w.heap.size 0 1 (.slice none 0 0) 247 := src_set h0 1 _
  have hb := build_any w.heap.size 247 _ h1
  have HD := Lib.hid (do_first w.heap.size 186 (.pointer (some ⟨w.heap.size, 0, none⟩)) _ 247 W (fun v w' => ∃ xs w1, LibSt w1 (W.setCell ⟨w.heap.size, 1, none⟩ (.int .i32 1)).heap.size w.heap.size ((W.setCell ⟨w.heap.size, 1, none⟩ (.int .i32 1)).heap.size + 1) 234 247 v xs w' ∧ xs.map FmR.f = libF ∧ Below (W.setCell ⟨w.heap.size, 1, none⟩ (.int .i32 1)).heap.size (W.setCell ⟨w.heap.size, 1, none⟩ (.int .i32 1)) w1) h0 (fun _ _ => by rfl)
    (hb.mono fun e w' ⟨he, v, xs, w1, a1, a2, a3⟩ => ⟨he, v, a1.once, xs, w1, a1, a2, a3⟩))
  have HW := Lib.hid hW
  clear hb hW
  go_enter Tryz.func178, Tryz.ntmps178
  go_wp2_with fail
  rw [← HW.out]
  refine HD.out.mono ?_
  rintro e w3 ⟨rfl, v, w2, ⟨xs, w1, hs, hx, hb⟩, hO, rfl⟩
  have hz2 : (W.setCell ⟨w.heap.size, 1, none⟩ (.int .i32 1)).heap.size = w.heap.size + 1 := by simp [hz]
  rw [hz2] at hs hb
  obtain ⟨a9, c9, rfl⟩ := hs.own.read
  have hX := src_set (src_set (show w2.drew.heap[w.heap.size]? = _ from hO) 0 (.int .u32 1)) 1 (.int .i32 0)
  have hown := ((hs.own.grown ((Below.refl _ _).drew)).src (Nat.lt_succ_of_lt (Nat.lt_succ_self _)) (grownBy_set _ _ 0 (.int .u32 1))).src (Nat.lt_succ_of_lt (Nat.lt_succ_self _)) (grownBy_set _ _ 1 (.int .i32 0))
  have hc := (heap_cellR hX).1 3
  have hI : ∀ z l, IntBlk w2 z l → z ≠ w.heap.size → IntBlk ((w2.drew.setCell ⟨w.heap.size, 0, none⟩ (.int .u32 1)).setCell ⟨w.heap.size, 1, none⟩ (.int .i32 0)) z l := fun z l h hne =>
    (heap_setCell_other _ ⟨w.heap.size, 1, none⟩ z _ (fun e => hne e)).trans ((heap_setCell_other _ ⟨w.heap.size, 0, none⟩ z _ (fun e => hne e)).trans h)
  have HI := Lib.hid (show ∀ y ∈ xs, IntBlk _ y.b1 y.f.sizes ∧ IntBlk _ y.b2 y.f.levels from fun y hy => ⟨hI _ _ (hs.ints y hy).1 (hs.ints y hy).2.2.1, hI _ _ (hs.ints y hy).2.1 (hs.ints y hy).2.2.2⟩)
  have HO := Lib.hid (hown.weak (show w.heap.size ≤ w.heap.size + 1 + 1 by omega))
  have HB9 : Hid (Below w.heap.size w ((w2.drew.setCell ⟨w.heap.size, 0, none⟩ (.int .u32 1)).setCell ⟨w.heap.size, 1, none⟩ (.int .i32 0))) := Lib.hid (by
    have h1 : Below w.heap.size w w1 := (hB.setCell (Nat.le_refl _) _).trans (hb.mono (by omega))
    have h2 : Below w.heap.size w1 w2 := ⟨hs.low.os, hs.low.tape, hs.low.output, hs.low.size, fun j hj => hs.keep j (by omega) (by omega)⟩
    exact ((h1.trans h2).drew.setCell (Nat.le_refl _) _).setCell (Nat.le_refl _) _)
  clear hI hown hs hb hB
  generalize ((w2.drew.setCell ⟨w.heap.size, 0, none⟩ (.int .u32 1)).setCell ⟨w.heap.size, 1, none⟩ (.int .i32 0)) = X at *
  have hc2 : X.cell? ⟨w.heap.size, 3, none⟩ = some (.slice a9 xs.length c9) := hc
  have hlt := blkLt hX
  clear hc hX
  go_wp2_with fail
  go_ret
  exact ⟨_, xs, rfl, hx, HO.out, HI.out, HB9.out⟩

end Go.Proofs.YtlcglclojlffgaaGreatDoor
namespace Go.Proofs.YtlcglclojlffgaaGreatDoor
open Go.RowKit

/-- a family in memory -/
theorem fm_at {w : World} {a : Option Addr} {l : List FmR} (h : fmE.At w a l) {i : Nat} {r : FmR} (hr : l[i]? = some r) : ∃ b o, a = some ⟨b, o, none⟩ ∧ b < w.heap.size ∧
    w.cell? ⟨b, o + i * 8, none⟩ = some (.string r.f.name) ∧ w.cell? ⟨b, o + i * 8 + 1, none⟩ = some (.int .i64 r.f.kind) ∧ w.cell? ⟨b, o + i * 8 + 2, none⟩ = some (.int .i64 r.f.fp) ∧ w.cell? ⟨b, o + i * 8 + 3, none⟩ = some (.int .i64 r.f.fk) ∧ w.cell? ⟨b, o + i * 8 + 4, none⟩ = some (.int .i64 r.f.fg) ∧
    w.cell? ⟨b, o + i * 8 + 5, none⟩ = some (.slice (some ⟨r.b1, 0, none⟩) r.f.sizes.length r.f.sizes.length) ∧ w.cell? ⟨b, o + i * 8 + 6, none⟩ = some (.int .i64 r.f.cols) ∧ w.cell? ⟨b, o + i * 8 + 7, none⟩ = some (.slice (some ⟨r.b2, 0, none⟩) r.f.levels.length r.f.levels.length) := by
  obtain ⟨b, o, e, hc⟩ := h i r hr
  have h0 : w.cell? ⟨b, o + i * 8, none⟩ = some (.string r.f.name) := hc 0 _ rfl
  exact ⟨b, o, e, lt_of_cell h0, h0, hc 1 _ rfl, hc 2 _ rfl, hc 3 _ rfl, hc 4 _ rfl, hc 5 _ rfl, hc 6 _ rfl, hc 7 _ rfl⟩
/-- a family as a value -/
abbrev fmA (f : Fam) (b1 b2 : Nat) : Value := .agg #[.string f.name, .int .i64 f.kind, .int .i64 f.fp, .int .i64 f.fk, .int .i64 f.fg, .slice (some ⟨b1, 0, none⟩) f.sizes.length f.sizes.length, .int .i64 f.cols, .slice (some ⟨b2, 0, none⟩) f.levels.length f.levels.length]
/-- a family with its lists is handed back, or none and a code -/
def RetFN (w : World) (o : Option Fam) (e : Ending) (w' : World) : Prop :=
  Below w.heap.size w w' ∧ ((∃ f b1 b2, o = some f ∧ e = .returned (.tuple #[fmA f b1 b2, .int .i64 0]) ∧ IntBlk w' b1 f.sizes ∧ IntBlk w' b2 f.levels) ∨
    (o = none ∧ e = .returned (.tuple #[.agg #[.string ⟨#[]⟩, .int .i64 0, .int .i64 0, .int .i64 0, .int .i64 0, .slice none 0 0, .int .i64 0, .slice none 0 0], .int .i64 4])))
theorem IntBlk.below {w w' : World} {b : Nat} {l : List Int} (h : IntBlk w b l) (hb : Below w.heap.size w w') : IntBlk w' b l := blkK hb h
theorem IntBlk.set {w : World} {z b i : Nat} {v : Value} {l : List Int} (h : IntBlk w z l) (hne : z ≠ b) : IntBlk (w.setCell ⟨b, i, none⟩ v) z l :=
  (heap_setCell_other _ ⟨b, i, none⟩ z _ (fun e => hne e)).trans h
theorem blk_ne {w : World} {b c : Nat} {l : List Int} {C : Array Value} {T : TypeId} (h : IntBlk w b l) (k : w.heap[c]? = some (.cells C T (0, 0))) (hT : T ≠ 2) : b ≠ c := by
  rintro rfl
  unfold IntBlk at h
  rw [k] at h
  injection h with h
  injection h with h1 h2
  exact hT h2
theorem IntBlk.at {w : World} {b : Nat} {l : List Int} (h : IntBlk w b l) : IntsAt w (some ⟨b, 0, none⟩) l := by
  intro i hi
  refine ⟨b, 0, rfl, ?_⟩
  rw [Nat.zero_add, (heap_cellR h).1]
  simp [hi]
theorem famN_map {xs : List FmR} (h : xs.map FmR.f = libF) (nm : ByteArray) : famN nm = (xs.find? fun r => decide (r.f.name = nm)).map FmR.f := by
  rw [famN, ← h, List.find?_map]; rfl
theorem find_hit {α : Type} {p : α → Bool} {xs : List α} {k : Nat} {x : α} (h : xs[k]? = some x) (hn : (xs.take k).find? p = none) (hp : p x = true) : xs.find? p = some x := by
  have hlt : k < xs.length := by rw [List.getElem?_eq_some_iff] at h; exact h.1
  have e : xs = xs.take k ++ x :: xs.drop (k + 1) := by
    rw [List.getElem?_eq_some_iff] at h
    obtain ⟨h1, rfl⟩ := h
    rw [List.getElem_cons_drop, List.take_append_drop]
  rw [e, List.find?_append, hn]
  simp [hp]
theorem find_miss {α : Type} {p : α → Bool} {xs : List α} {k : Nat} {x : α} (h : xs[k]? = some x) (hn : (xs.take k).find? p = none) (hp : p x = false) : (xs.take (k + 1)).find? p = none := by
  rw [take_snoc' h, List.find?_append, hn]
  simp [hp]

set_option maxRecDepth 100000 in
set_option maxHeartbeats 4000000 in
theorem familyNamed_any (nm : ByteArray) (w : World) :
    Calls Tryz.prog 174 #[.string nm] w (RetFN w (famN nm)) := by
  obtain ⟨O, hO⟩ : ∃ O, O = famN nm := ⟨_, rfl⟩
  have HO := Lib.hid hO
  rw [← hO]
  clear hO
  have HR0 := Lib.hid (push_at w (.cells #[.string ⟨#[]⟩, .int .i64 0, .int .i64 0, .int .i64 0, .int .i64 0, .slice none 0 0, .int .i64 0, .slice none 0 0] 123 (0, 0)))
  go_enter Tryz.func174, Tryz.ntmps174
  go_wp2_with fail
  refine (library_any _).mono ?_
  rintro e w1 ⟨v, xs, rfl, hx, ho, hi, hb⟩
  obtain ⟨a, c, rfl⟩ := ho.read
  have hl : xs.length = 5 := by have := congrArg List.length hx; simpa [libF] using this
  have HF := Lib.hid (HO.out.trans (famN_map hx nm))
  have HR1 := Lib.hid (blkK hb HR0.out)
  have HA := Lib.hid ho.at
  have HI := Lib.hid hi
  have HB1 := Lib.hid (bt1 hb)
  have hz1 : w.heap.size < w1.heap.size := blkLt HR1.out
  clear ho hi hb hx
  go_wp2_with fail
  go_loopw [8] (fun i wr => ∃ k : Nat, k ≤ xs.length ∧ i = .int .i64 k ∧ (xs.take k).find? (fun r => decide (r.f.name = nm)) = none ∧ Below w1.heap.size w1 wr) (fun i _ => xs.length - (intOf i).toNat)
  case atStart => exact ⟨0, Nat.zero_le _, rfl, rfl, Below.refl _ _⟩
  case round =>
    obtain ⟨k, hk, rfl, hnone, hbr⟩ := hrel
    have HNO := Lib.hid hnone
    have HBR := Lib.hid hbr
    have KR := Lib.hid (blkK hbr HR1.out)
    obtain ⟨hcR, hfR⟩ := heap_cellR KR.out
    have hltR := blkLt KR.out
    clear hnone hbr
    by_cases hlt : k < xs.length
    · have hki : (k : Int) < 5 := by omega
      obtain ⟨r, hr⟩ : ∃ r, xs[k]? = some r := by rw [List.getElem?_eq_getElem hlt]; exact ⟨_, rfl⟩
      have HXK := Lib.hid hr
      have hm := List.mem_of_getElem? hr
      obtain ⟨b, o, rfl, hbl, c0, c1, c2, c3, c4, c5, c6, c7⟩ := fm_at (HA.out.below HBR.out) hr
      by_cases hq : r.f.name = nm
      · have HD := Lib.hid (show O = some r.f by rw [HF.out, find_hit HXK.out HNO.out (decide_eq_true hq)]; rfl)
        have hqd : (r.f.name.toList == nm.toList) = true := by rw [hq]; simp
        have HJ := Lib.hid (HI.out r hm)
        clear hr hm
        have HBA := Lib.hid (HJ.out.1.below HBR.out)
        have HBC := Lib.hid (HJ.out.2.below HBR.out)
        have hn1 := blk_ne HBA.out KR.out (by decide)
        have hn2 := blk_ne HBC.out KR.out (by decide)
        clear hq
        go_wp2_with fail
        refine bodyPost_ret (v := .tuple #[.agg #[.string r.f.name, .int .i64 r.f.kind, .int .i64 r.f.fp, .int .i64 r.f.fk, .int .i64 r.f.fg, .slice (some ⟨r.b1, 0, none⟩) r.f.sizes.length r.f.sizes.length, .int .i64 r.f.cols, .slice (some ⟨r.b2, 0, none⟩) r.f.levels.length r.f.levels.length], .int .i64 0]) (by simp [results, Tryz.results174, go_sem, hcR, hltR]) rfl ⟨?_, .inl ⟨r.f, r.b1, r.b2, HD.out, rfl, ?_, ?_⟩⟩
        · refine Below.alloc ?_ (by simp; omega) _
          iterate 8 (refine Below.setCell ?_ (by dsimp only; omega) _)
          exact bt0 HB1.out HBR.out (Nat.le_refl _)
        · refine IntBlk.below ?_ (ba1 _ _)
          iterate 8 (refine IntBlk.set ?_ hn1)
          exact HBA.out
        · refine IntBlk.below ?_ (ba1 _ _)
          iterate 8 (refine IntBlk.set ?_ hn2)
          exact HBC.out
      · have HN2 := Lib.hid (find_miss HXK.out HNO.out (decide_eq_false hq))
        have hqd : (r.f.name.toList == nm.toList) = false := by
          rw [beq_eq_false_iff_ne, ne_eq, ByteArray.toList_eq, ByteArray.toList_eq]; exact fun e => hq (ByteArray.ext (Array.toList_inj.1 e))
        clear hr hm hq
        go_wp2_with fail
        exact ⟨⟨k + 1, by omega, by go_num, HN2.out, bt0 HBR.out (ba1 _ _) (Nat.le_refl _)⟩, by simp [intOf]; omega⟩
    · have hki : ¬ (k : Int) < 5 := by omega
      have HD := Lib.hid (show O = none by
        have h := HNO.out
        rw [List.take_of_length_le (by omega)] at h
        rw [HF.out, h]; rfl)
      go_wp2_with fail
      refine bodyPost_ret (v := .tuple #[.agg #[.string ⟨#[]⟩, .int .i64 0, .int .i64 0, .int .i64 0, .int .i64 0, .slice none 0 0, .int .i64 0, .slice none 0 0], .int .i64 4]) (by simp [results, Tryz.results174, go_sem, hcR]) rfl ⟨?_, .inr ⟨HD.out, rfl⟩⟩
      iterate 8 (refine Below.setCell ?_ (by dsimp only; omega) _)
      exact bt0 HB1.out HBR.out (Nat.le_refl _)

end Go.Proofs.YtlcglclojlffgaaGreatDoor
namespace Go.Proofs.YtlcglclojlffgaaGreatDoor
open Go.RowKit

/-- a size and a code are handed back -/
def RetSm (w : World) (o : Option Int) (e : Ending) (w' : World) : Prop :=
  Below w.heap.size w w' ∧ ((∃ n, o = some n ∧ e = .returned (.tuple #[.int .i64 n, .int .i64 0])) ∨ (o = none ∧ ∃ c, c ≠ 0 ∧ e = .returned (.tuple #[.int .i64 0, .int .i64 c])))
theorem fam_sz {nm : ByteArray} {kd p k g : Int} {szs : List Int} {cl : Int} {lvs : List Int} (h : Fam.ok ⟨nm, kd, p, k, g, szs, cl, lvs⟩ = true) {x : Int} (hx : x ∈ szs) : 3 ≤ x ∧ x ≤ 41 := by
  obtain ⟨-, -, -, -, h5⟩ := fam_ok h
  rcases h5 with ⟨-, h6, -⟩ | ⟨-, -, -, -, -, h7⟩
  · have h7 := List.all_eq_true.1 h6 x hx
    simp [msz] at h7
    omega
  · have := ris_in h7 hx
    omega
/-- a size has room for a message -/
def roomB (f : Fam) (lev need n : Int) : Bool := (f.lay n lev).ok ((2 ^ f.fk.toNat : Nat) : Int) && decide (need ≤ (f.lay n lev).data)
theorem smS_no1 {f : Fam} {lev : Int} {S : List UInt8} (h : inB lev 0 ((f.levels.length : Int) - 1) = false) : smS f lev S = none := by
  rw [smS, if_neg]
  rintro ⟨h1, h2⟩
  rw [inB_iff.2 ⟨h1, by omega⟩] at h
  cases h
theorem smS_no2 {f : Fam} {lev : Int} {S : List UInt8} (h : payS f.fk.toNat S = none) : smS f lev S = none := by
  rw [smS, h]; split <;> rfl
theorem smS_go {f : Fam} {lev : Int} {S : List UInt8} (h : inB lev 0 ((f.levels.length : Int) - 1) = true) {need : Int} (hp : payS f.fk.toNat S = some need) : smS f lev S = f.sizes.find? (roomB f lev need) := by
  have := inB_iff.1 h
  rw [smS, if_pos ⟨this.1, by omega⟩, hp]; rfl

set_option maxRecDepth 100000 in
set_option maxHeartbeats 4000000 in
theorem smallestSize_any (nm : ByteArray) (kd p k g : Int) (a1 : Option Addr) (szs : List Int) (c1 : Nat) (cl : Int) (a2 : Option Addr) (lvs : List Int) (c2 : Nat) (lev : Int) (s : ByteArray) (w : World) (h : Fam.ok ⟨nm, kd, p, k, g, szs, cl, lvs⟩ = true) (h1 : IntsAt w a1 szs) (h2 : IntsAt w a2 lvs) (ln : nm.size ≤ 1048576) (hs : s.size ≤ 1048576) :
    Calls Tryz.prog 175 #[(.agg #[.string nm, .int .i64 kd, .int .i64 p, .int .i64 k, .int .i64 g, .slice a1 szs.length c1, .int .i64 cl, .slice a2 lvs.length c2]), .int .i64 lev, .string s] w (RetSm w (smS ⟨nm, kd, p, k, g, szs, cl, lvs⟩ lev s.data.toList)) := by
  obtain ⟨hfb, hl4, -, hs8, -⟩ := fam_ok h
  have HSZ := Lib.hid (fun x (hx : x ∈ szs) => fam_sz h hx)
  obtain ⟨fam, hfam⟩ : ∃ f, f = Fam.mk nm kd p k g szs cl lvs := ⟨_, rfl⟩
  have HFM := Lib.hid hfam
  have HF := Lib.hid (fv_of hfb)
  have HIF := Lib.hid (fun w (h1 : IntsAt w a1 szs) (h2 : IntsAt w a2 lvs) => isFamily_any nm kd p k g a1 szs c1 cl a2 lvs c2 w h1 h2 (by omega) (by omega) ln (fun x hx => by have := HSZ.out x hx; omega))
  have HHL := Lib.hid (fun w => hasLevel_any nm kd p k g a1 szs c1 cl a2 lvs c2 lev w (by omega))
  have HPS := Lib.hid (fun w => payloadSize_any HF.out s w hs)
  have HLY := Lib.hid (fun n w (hn : hasI szs n = true) (hl : 0 ≤ lev ∧ lev < lvs.length) (hx : IntsAt w a2 lvs) => layout_any nm kd p k g a1 szs c1 cl a2 lvs c2 n lev w h hn hl hx _ rfl)
  rw [← hfam] at HIF HLY h ⊢
  have hk : (bF k.toNat g.toNat).k = fam.fk.toNat := by rw [hfam]; rfl
  have hq : ((bF k.toNat g.toNat).q : Int) = ((2 ^ fam.fk.toNat : Nat) : Int) := by rw [hfam]; rfl
  rw [hk] at HPS
  have HQ := Lib.hid hq
  have H1 := Lib.hid h1
  have H2 := Lib.hid h2
  have HOK := Lib.hid h
  have hsz : fam.sizes = szs := by rw [hfam]
  have hlv : fam.levels = lvs := by rw [hfam]
  have HS := Lib.hid hsz
  obtain ⟨S, hS⟩ : ∃ S, S = s.data.toList := ⟨_, rfl⟩
  have hSl : S.length = s.size := by rw [hS]; rfl
  rw [← hS] at HPS ⊢
  obtain ⟨O, hO⟩ : ∃ O, O = smS fam lev S := ⟨_, rfl⟩
  have HO := Lib.hid hO
  rw [← hO]
  have HN1 := Lib.hid (fun hh => hO.trans (smS_no1 (f := fam) (lev := lev) (S := S) hh))
  have HN2 := Lib.hid (fun hh => hO.trans (smS_no2 (f := fam) (lev := lev) (S := S) hh))
  have HGO := Lib.hid (fun h1 need hh => hO.trans (smS_go (f := fam) (lev := lev) (S := S) h1 (need := need) hh))
  rw [hlv] at HN1 HGO
  rw [hsz] at HGO
  have HP4 := Lib.hid (show ¬ S.length ≤ 400 → payS fam.fk.toNat S = none from fun hh => by rw [payS, if_neg (by omega)])
  have HB0 := Lib.hid (ba1 w (.cells #[.string nm, .int .i64 kd, .int .i64 p, .int .i64 k, .int .i64 g, .slice a1 szs.length c1, .int .i64 cl, .slice a2 lvs.length c2] 123 (0, 0)))
  have K0 := Lib.hid (push_at w (.cells #[.string nm, .int .i64 kd, .int .i64 p, .int .i64 k, .int .i64 g, .slice a1 szs.length c1, .int .i64 cl, .slice a2 lvs.length c2] 123 (0, 0)))
  have HMS := Lib.hid (fun w => isMessage_any s w hs)
  clear h h1 h2 hfb hS hO hfam hk hq hsz hlv
  go_enter Tryz.func175, Tryz.ntmps175
  go_wp2_with fail
  refine (HIF.out _ (H1.out.below HB0.out) (H2.out.below HB0.out)).mono ?_
  rw [HOK.out]
  rintro e w1 ⟨rfl, hb1⟩
  have K1 := Lib.hid (blkK hb1 K0.out)
  have HB1 := Lib.hid (bt0 HB0.out hb1 (Nat.le_refl _))
  clear hb1
  obtain ⟨hcA, hfA⟩ := heap_cellR K1.out
  have z1 := blkLt K1.out
  go_wp2_with fail
  refine (HHL.out _).mono ?_
  rintro e w2 ⟨rfl, hb2⟩
  have K2 := Lib.hid (blkK hb2 K1.out)
  have HB2 := Lib.hid (bt0 HB1.out hb2 (Nat.le_refl _))
  clear hb2 hcA hfA
  obtain ⟨hcA, hfA⟩ := heap_cellR K2.out
  have z2 := blkLt K2.out
  rcases Bool.eq_false_or_eq_true (inB lev 0 ((lvs.length : Int) - 1)) with hv | hv
  rotate_left
  · have HD := Lib.hid (HN1.out hv)
    go_wp2_with fail
    go_ret2
    exact ⟨HB2.out, .inr ⟨HD.out, 2, by decide, rfl⟩⟩
  have HV := Lib.hid hv
  go_wp2_with fail
  refine (HMS.out _).mono ?_
  rintro e w' ⟨rfl, rfl⟩
  by_cases h400 : s.size ≤ 400
  rotate_left
  · have HD := Lib.hid (HN2.out (HP4.out (by omega)))
    have hd : decide (s.size ≤ 400) = false := decide_eq_false h400
    go_wp2_with fail
    go_ret2
    exact ⟨HB2.out, .inr ⟨HD.out, 3, by decide, rfl⟩⟩
  have hd : decide (s.size ≤ 400) = true := decide_eq_true h400
  clear hv
  go_wp2_with fail
  refine (HPS.out _).mono ?_
  rintro e w3 ⟨rfl, hb3⟩
  have K3 := Lib.hid (blkK hb3 K2.out)
  have HB3 := Lib.hid (bt0 HB2.out hb3 (Nat.le_refl _))
  clear hb3 hcA hfA
  obtain ⟨hcA, hfA⟩ := heap_cellR K3.out
  have z3 := blkLt K3.out
  obtain ⟨P, hP⟩ : ∃ P, P = payS fam.fk.toNat S := ⟨_, rfl⟩
  rcases P with _ | need
  · have HD := Lib.hid (HN2.out hP.symm)
    obtain ⟨e1, e2⟩ := payNo hP.symm
    rw [e1, e2]
    clear hP e1 e2
    go_wp2_with fail
    go_ret2
    exact ⟨HB3.out, .inr ⟨HD.out, 4, by decide, rfl⟩⟩
  obtain ⟨e1, e2⟩ := payYes hP.symm
  rw [e1, e2]
  have HD := Lib.hid (HGO.out HV.out need hP.symm)
  have HLI := Lib.hid (show 0 ≤ lev ∧ lev < lvs.length by have := inB_iff.1 HV.out; omega)
  clear hP e1 e2
  go_wp2_with fail
  go_loopw [35] (fun i wr => ∃ j : Nat, j ≤ szs.length ∧ i = .int .i64 j ∧ (szs.take j).find? (roomB fam lev need) = none ∧ Below w3.heap.size w3 wr) (fun i _ => szs.length - (intOf i).toNat)
  case atStart => exact ⟨0, Nat.zero_le _, rfl, rfl, Below.refl _ _⟩
  case round =>
    obtain ⟨j, hj, rfl, hnone, hbr⟩ := hrel
    have HNO := Lib.hid hnone
    have HBR := Lib.hid hbr
    have KR := Lib.hid (blkK hbr K3.out)
    clear hnone hbr hcA hfA
    obtain ⟨hcA, hfA⟩ := heap_cellR KR.out
    have hltR := blkLt KR.out
    by_cases hlt : j < szs.length
    · have hji : (j : Int) < (szs.length : Int) := by omega
      obtain ⟨b1, o1, x, rfl, hxk, hb1, hcx⟩ := (H1.out.below (HB3.out.trans (HBR.out.mono HB3.out.size))).at hlt
      have HXK := Lib.hid hxk
      have HHI := Lib.hid (hasI_yes hxk)
      clear hxk
      go_wp2_with fail
      refine (HLY.out x _ HHI.out HLI.out (H2.out.below (HB3.out.trans (HBR.out.mono HB3.out.size)))).mono ?_
      obtain ⟨L, hL⟩ : ∃ L, L = fam.lay x lev := ⟨_, rfl⟩
      have HL := Lib.hid hL
      rw [← hL]
      rintro e w4 ⟨rfl, hb4⟩
      have HB4 := Lib.hid (bt0 HBR.out hb4 (Nat.le_refl _))
      clear hb4 hL hcx
      go_wp2_with fail
      have KL := Lib.hid (push_at w4 (.cells #[.int .i64 p, .int .i64 k, .int .i64 g, .int .i64 L.data, .int .i64 L.checks, .int .i64 L.count] 146 (0, 0)))
      refine (isLayout_any HF.out L.data L.checks L.count _).mono ?_
      rw [show Lay.mk L.data L.checks L.count = L from rfl, HQ.out]
      rintro e w5 ⟨rfl, hb5⟩
      have KL5 := Lib.hid (blkK hb5 KL.out)
      have HB5 := Lib.hid (bt0 (bt0 HB4.out (ba1 _ _) (Nat.le_refl _)) hb5 (Nat.le_refl _))
      clear hb5 hcA hfA
      obtain ⟨hcL, hfL⟩ := heap_cellR KL5.out
      have zL := blkLt KL5.out
      rcases Bool.eq_false_or_eq_true (L.ok ((2 ^ fam.fk.toNat : Nat) : Int)) with ho | ho
      · rw [ho]
        by_cases hle : need ≤ L.data
        · have HR := Lib.hid (HD.out.trans (find_hit HXK.out HNO.out (show roomB fam lev need x = true by rw [roomB, ← HL.out, ho, decide_eq_true hle]; rfl)))
          clear ho
          go_wp2_with fail
          go_ret2
          exact ⟨bt0 HB3.out HB5.out (Nat.le_refl _), .inl ⟨x, HR.out, rfl⟩⟩
        · have HR := Lib.hid (find_miss HXK.out HNO.out (show roomB fam lev need x = false by rw [roomB, ← HL.out, ho, decide_eq_false hle]; rfl))
          clear ho
          go_wp2_with fail
          exact ⟨⟨j + 1, by omega, by go_num, HR.out, HB5.out⟩, by simp [intOf]; omega⟩
      · rw [ho]
        have HR := Lib.hid (find_miss HXK.out HNO.out (show roomB fam lev need x = false by rw [roomB, ← HL.out, ho, Bool.false_and]))
        clear ho
        go_wp2_with fail
        exact ⟨⟨j + 1, by omega, by go_num, HR.out, HB5.out⟩, by simp [intOf]; omega⟩
    · have hji : ¬ (j : Int) < (szs.length : Int) := by omega
      have HR := Lib.hid (show O = none by have h := HNO.out; rw [List.take_of_length_le (by omega)] at h; rw [HD.out, h])
      go_wp2_with fail
      go_ret2
      exact ⟨bt0 HB3.out HBR.out (Nat.le_refl _), .inr ⟨HR.out, 4, by decide, rfl⟩⟩

end Go.Proofs.YtlcglclojlffgaaGreatDoor
namespace Go.Proofs.YtlcglclojlffgaaGreatDoor
open Go.RowKit

/-- the first m cells of row g are ys -/
def RowIs (W : World) (g cap m : Nat) (ys : List Int) : Prop := ∃ cur : Array Value, W.heap[g]? = some (.cells cur 2 (0, 0)) ∧ cur.size = cap ∧ cur.toList.take m = ys.map (Value.int .i64)
theorem RowIs.below {W W' : World} {g cap m B : Nat} {ys : List Int} (h : RowIs W g cap m ys) (hb : Below B W W') (hg : g < B) : RowIs W' g cap m ys := by
  obtain ⟨cur, h1, h2, h3⟩ := h
  exact ⟨cur, (hb.block g hg).trans h1, h2, h3⟩
theorem RowIs.lt {W : World} {g cap m : Nat} {ys : List Int} (h : RowIs W g cap m ys) : g < W.heap.size := by
  obtain ⟨cur, h1, _⟩ := h
  exact (Array.getElem?_eq_some_iff.1 h1).1
theorem RowIs.own {W : World} {g cap m : Nat} {ys : List Int} (h : RowIs W g cap m ys) (hl : ys.length = m) (hm : m ≤ cap) (hc : cap ≤ maxLen) : OwnI W g (.slice (some ⟨g, 0, none⟩) ys.length cap) ys := by
  obtain ⟨cur, h1, h2, h3⟩ := h
  exact ⟨by simp, Or.inr ⟨g, cap, cur, rfl, Nat.le_refl _, h1, by omega, hc, by omega, by rw [Nat.mul_one, hl]; exact h3⟩⟩
/-- one pixel more -/
theorem RowIs.more {W : World} {g cap m : Nat} {ys : List Int} {z : Int} {b : Nat} (h : RowIs W g cap m ys) (hm : m < cap) (hz : W.cell? ⟨b, 0, none⟩ = some (.int .i64 z)) (ty : TypeId) :
    ∃ W', (Builtin.append_ #[67, 67] ty #[.slice (some ⟨g, 0, none⟩) m cap, .slice (some ⟨b, 0, none⟩) 1 1]).run Tryz.prog W = .ok (.slice (some ⟨g, 0, none⟩) (m + 1) cap) W' ∧ RowIs W' g cap m ys ∧ RowIs W' g cap (m + 1) (ys ++ [z]) ∧ W.grownBy W' (some g) := by
  obtain ⟨cur, h1, h2, h3⟩ := h
  obtain ⟨i0, hi, y0, y1, y2⟩ := info_parts infoI
  have hr := run_append_room (P := Tryz.prog) W 67 ty 2 i0 Tryz.underlying67 hi g m cap cur h1 ⟨b, 0, none⟩ 1 1 [.int .i64 z] (by rw [y1]; rfl)
    (fun j u hj => by
      match j, hj with
      | 0, hj => simp at hj; subst hj; simpa [Addr.add] using hz
      | j + 1, hj => simp at hj) (fun u hu => by rw [List.mem_singleton] at hu; subst hu; rfl) hm (by rw [y1]; simp; omega)
  rw [y1, Nat.mul_one] at hr
  have hlen : cur.toList.length = cap := by simpa using h2
  have hrow := setRow_heap W g cur (cur.toList.take m ++ [Value.int .i64 z] ++ cur.toList.drop (m + 1)).toArray 2 (0, 0) h1
  have hsz : (cur.toList.take m ++ [Value.int .i64 z] ++ cur.toList.drop (m + 1)).toArray.size = cap := by
    simp only [List.size_toArray, List.length_append, List.length_take, List.length_drop, List.length_singleton]
    omega
  have htl : (cur.toList.take m).length = m := by rw [List.length_take]; omega
  refine ⟨_, hr, ⟨_, hrow, hsz, ?_⟩, ⟨_, hrow, hsz, ?_⟩, ⟨rfl, rfl, rfl, by simp, fun k _ hk => setRow_other W g k _ (fun e => hk (by rw [e]))⟩⟩
  · rw [List.append_assoc, List.take_append_of_le_length (by omega), List.take_of_length_le (by omega)]
    exact h3
  · rw [List.take_append_of_le_length (by simp; omega), List.take_of_length_le (by simp; omega), h3, List.map_append]
    rfl

/-- the first t pixels -/
def pix (F : Nat → Nat → Int) (m t : Nat) : List Int := (List.range t).map fun i => F (i / m) (i % m)
/-- while a raster is made -/
def RasAt (w W : World) (n m : Int) (cap t : Nat) (ys : List Int) : Prop :=
  W.heap[w.heap.size]? = some (.cells #[.int .i64 0, .int .i64 0, .slice none 0 0] 101 (0, 0)) ∧ W.heap[w.heap.size + 2]? = some (.cells #[.int .i64 n, .int .i64 m, .slice (some ⟨w.heap.size + 1, 0, none⟩) t cap] 101 (0, 0)) ∧
    RowIs W (w.heap.size + 1) cap t ys ∧ Below w.heap.size w W
theorem RasAt.below {w W W' : World} {n m : Int} {cap t : Nat} {ys : List Int} (h : RasAt w W n m cap t ys) (hb : Below W.heap.size W W') : RasAt w W' n m cap t ys :=
  ⟨(hb.block _ (Array.getElem?_eq_some_iff.1 h.1).1).trans h.1, (hb.block _ (Array.getElem?_eq_some_iff.1 h.2.1).1).trans h.2.1, h.2.2.1.below hb h.2.2.1.lt, bt0 h.2.2.2 hb (Nat.le_refl _)⟩
theorem RasAt.row {w W W' : World} {n m : Int} {cap t : Nat} {ys : List Int} (h : RasAt w W n m cap t ys) (hg : W.grownBy W' (some (w.heap.size + 1))) (hr : RowIs W' (w.heap.size + 1) cap t ys) : RasAt w W' n m cap t ys :=
  ⟨(hg.block _ (Array.getElem?_eq_some_iff.1 h.1).1 (fun e => by have := Option.some.inj e; omega)).trans h.1, (hg.block _ (Array.getElem?_eq_some_iff.1 h.2.1).1 (fun e => by have := Option.some.inj e; omega)).trans h.2.1, hr, h.2.2.2.trans (below_of_grownBy hg h.2.2.2.size (fun k e => by have := Option.some.inj e; omega))⟩
/-- the grown slice is stored back -/
theorem RasAt.store {w W : World} {n m : Int} {cap t t' : Nat} {ys ys' : List Int} (h : RasAt w W n m cap t ys) (hr : RowIs W (w.heap.size + 1) cap t' ys') :
    RasAt w (W.setCell ⟨w.heap.size + 2, 2, none⟩ (.slice (some ⟨w.heap.size + 1, 0, none⟩) t' cap)) n m cap t' ys' := by
  have hg := grownBy_set W (w.heap.size + 2) 2 (.slice (some ⟨w.heap.size + 1, 0, none⟩) t' cap)
  refine ⟨(hg.block _ (Array.getElem?_eq_some_iff.1 h.1).1 (fun e => by have := Option.some.inj e; omega)).trans h.1, src_set h.2.1 2 _, ?_, Below.setCell h.2.2.2 (by dsimp only; omega) _⟩
  obtain ⟨cur, h1, h2, h3⟩ := hr
  exact ⟨cur, (hg.block _ (Array.getElem?_eq_some_iff.1 h1).1 (fun e => by have := Option.some.inj e; omega)).trans h1, h2, h3⟩
end Go.Proofs.YtlcglclojlffgaaGreatDoor
namespace Go.Proofs.YtlcglclojlffgaaGreatDoor
open Go.RowKit

/-- are the fields of a damage as described for its kind -/
def fineB (k r c t w : Int) : Bool :=
  if k = 1 then inB r 0 400 && inB c 0 400 && inB t 0 400 && (w == 0)
  else if k = 2 then inB r 0 400 && inB c 0 400 && inB t 1 400 && inB w 1 400
  else if k = 3 then (r == 0) && (c == 0) && inB t 1 400 && inB w (-400) 400
  else if k = 4 then inB r 0 400 && inB t 0 400 && (c == 0) && (w == 0)
  else if k = 5 then (r == 0) && (c == 0) && (w == 0) && inB t 0 256
  else false
/-- a valid damage -/
def dmOk (k r c t w g : Int) : Bool := fineB k r c t w && inB g 0 255
/-- does a blot or a scratch touch a pixel -/
def touchB (k r c t w y x : Int) : Bool := if k = 1 then decide ((y - r) * (y - r) + (x - c) * (x - c) ≤ t * t) else inB y r (r + t - 1) && inB x c (c + w - 1)
/-- a pixel behind a damage that is no noise -/
def dpix (k r c t w g : Int) (m : Nat) (xs : List Int) (y x : Nat) : Int :=
  if k = 3 then (if inB ((x : Int) - (y : Int) * w / t) 0 ((m : Int) - 1) = true then xs.getD (y * m + ((x : Int) - (y : Int) * w / t).toNat) 0 else g)
  else if k = 5 then (xs.getD (y * m + x) 0 * t + g * (256 - t)) / 256
  else if touchB k r c t w y x = true then g else xs.getD (y * m + x) 0
/-- rounds of noise -/
def nz (g : Int) (N : Nat) (p : Int × List Int) : Nat → Int × List Int
  | 0 => p
  | t + 1 => ((75 * (nz g N p t).1 + 74) % 65537, (nz g N p t).2.set (((75 * (nz g N p t).1 + 74) % 65537) % (N : Int)).toNat g)
/-- the pixels behind a damage -/
def dmgL (k r c t w g : Int) (n m : Nat) (xs : List Int) : List Int :=
  if k = 4 then (nz g (n * m) (r, xs) t.toNat).2 else pix (dpix k r c t w g m xs) m (n * m)

/-- a damage in six numbers -/
structure Dm where
  k : Int
  r : Int
  c : Int
  t : Int
  w : Int
  g : Int
def Dm.ok (d : Dm) : Bool := dmOk d.k d.r d.c d.t d.w d.g
def Dm.on (d : Dm) (n m : Nat) (xs : List Int) : List Int := dmgL d.k d.r d.c d.t d.w d.g n m xs
/-- a raster may have n rows and m columns -/
def sizeB (n m : Int) : Bool := inB n 1 400 && inB m 1 400 && decide (n * m ≤ 40000)
theorem size_bd {n m : Int} (h1 : inB n 1 400 = true) (h2 : inB m 1 400 = true) : 1 ≤ n * m ∧ n * m ≤ 160000 := by
  rw [inB_iff] at h1 h2
  have a : 1 * 1 ≤ n * m := Int.mul_le_mul h1.1 h2.1 (by omega) (by omega)
  have b : n * m ≤ 400 * 400 := Int.mul_le_mul h1.2 h2.2 (by omega) (by omega)
  omega
theorem three (a b c : Bool) : a = false ∨ (a = true ∧ b = false) ∨ (a = true ∧ b = true ∧ c = false) ∨ (a = true ∧ b = true ∧ c = true) := by
  cases a <;> cases b <;> cases c <;> simp
end Go.Proofs.YtlcglclojlffgaaGreatDoor
namespace Go.Proofs.YtlcglclojlffgaaGreatDoor
open Go.RowKit

set_option maxHeartbeats 400000 in
theorem isRasterSize_any (n m : Int) (w : World) : Calls Tryz.prog 55 #[.int .i64 n, .int .i64 m] w fun e w' => e = .returned (.bool (sizeB n m)) ∧ w = w' := by
  rcases three (inB n 1 400) (inB m 1 400) (decide (n * m ≤ 40000)) with h1 | ⟨h1, h2⟩ | ⟨h1, h2, h3⟩ | ⟨h1, h2, h3⟩
  · have e : sizeB n m = false := by rw [sizeB, h1]; rfl
    rw [e]
    clear e
    go_enter Tryz.func55, Tryz.ntmps55
    go_wp2_with (go_at_call 71; refine (inRange_val h1).mono ?_; rintro e w' ⟨rfl, rfl⟩)
    go_ret
    exact ⟨rfl, rfl⟩
  · have e : sizeB n m = false := by rw [sizeB, h1, h2]; rfl
    rw [e]
    clear e
    go_enter Tryz.func55, Tryz.ntmps55
    go_wp2_with fail
    refine (inRange_val h1).mono ?_
    rintro e w' ⟨rfl, rfl⟩
    go_wp2_with fail
    refine (inRange_val h2).mono ?_
    rintro e w' ⟨rfl, rfl⟩
    go_wp2_with fail
    go_ret
    exact ⟨rfl, rfl⟩
  all_goals
    obtain ⟨b1, b2⟩ := size_bd h1 h2
    first | (have e : sizeB n m = false := by (rw [sizeB, h1, h2, h3]; rfl)
             rw [e]; clear e) | (have e : sizeB n m = true := by (rw [sizeB, h1, h2, h3]; rfl)
                                 rw [e]; clear e)
    go_enter Tryz.func55, Tryz.ntmps55
    go_wp2_with fail
    refine (inRange_val h1).mono ?_
    rintro e w' ⟨rfl, rfl⟩
    go_wp2_with fail
    refine (inRange_val h2).mono ?_
    rintro e w' ⟨rfl, rfl⟩
    go_wp2_with fail
    go_ret
    exact ⟨rfl, rfl⟩
set_option maxHeartbeats 400000 in
theorem l20Size_any (n m : Int) (w : World) : Calls Tryz.prog 43 #[.int .i64 n, .int .i64 m] w fun e w' => e = .returned (.bool (sizeB n m)) ∧ w = w' := by
  rcases three (inB n 1 400) (inB m 1 400) (decide (n * m ≤ 40000)) with h1 | ⟨h1, h2⟩ | ⟨h1, h2, h3⟩ | ⟨h1, h2, h3⟩
  · have e : sizeB n m = false := by rw [sizeB, h1]; rfl
    rw [e]
    clear e
    go_enter Tryz.func43, Tryz.ntmps43
    go_wp2_with (go_at_call 44; refine (l01In_val h1).mono ?_; rintro e w' ⟨rfl, rfl⟩)
    go_ret
    exact ⟨rfl, rfl⟩
  · have e : sizeB n m = false := by rw [sizeB, h1, h2]; rfl
    rw [e]
    clear e
    go_enter Tryz.func43, Tryz.ntmps43
    go_wp2_with fail
    refine (l01In_val h1).mono ?_
    rintro e w' ⟨rfl, rfl⟩
    go_wp2_with fail
    refine (l01In_val h2).mono ?_
    rintro e w' ⟨rfl, rfl⟩
    go_wp2_with fail
    go_ret
    exact ⟨rfl, rfl⟩
  all_goals
    obtain ⟨b1, b2⟩ := size_bd h1 h2
    first | (have e : sizeB n m = false := by (rw [sizeB, h1, h2, h3]; rfl)
             rw [e]; clear e) | (have e : sizeB n m = true := by (rw [sizeB, h1, h2, h3]; rfl)
                                 rw [e]; clear e)
    go_enter Tryz.func43, Tryz.ntmps43
    go_wp2_with fail
    refine (l01In_val h1).mono ?_
    rintro e w' ⟨rfl, rfl⟩
    go_wp2_with fail
    refine (l01In_val h2).mono ?_
    rintro e w' ⟨rfl, rfl⟩
    go_wp2_with fail
    go_ret
    exact ⟨rfl, rfl⟩
end Go.Proofs.YtlcglclojlffgaaGreatDoor
namespace Go.Proofs.YtlcglclojlffgaaGreatDoor
open Go.RowKit

/-- the slice at address a holds the texts ss -/
def StrsAt (w : World) (a : Option Addr) (ss : List ByteArray) : Prop :=
  ∀ i (h : i < ss.length), ∃ b o, a = some ⟨b, o, none⟩ ∧ w.cell? ⟨b, o + i, none⟩ = some (.string ss[i])
theorem StrsAt.at {w : World} {a : Option Addr} {ss : List ByteArray} (H : StrsAt w a ss) {k : Nat} (hk : k < ss.length) :
    ∃ b o z, a = some ⟨b, o, none⟩ ∧ ss[k]? = some z ∧ b < w.heap.size ∧ w.cell? ⟨b, o + k, none⟩ = some (.string z) := by
  obtain ⟨b, o, ha, hc⟩ := H k hk
  exact ⟨b, o, ss[k], ha, List.getElem?_eq_getElem hk, lt_of_cell hc, hc⟩
theorem StrsAt.below {w w' : World} {a : Option Addr} {ss : List ByteArray} (H : StrsAt w a ss) (hb : Below w.heap.size w w') : StrsAt w' a ss := by
  intro i h
  obtain ⟨b, o, ha, hc⟩ := H i h
  exact ⟨b, o, ha, by rw [hb.cell (p := ⟨b, o + i, none⟩) (lt_of_cell hc)]; exact hc⟩
theorem StrsAt.grow {w w' : World} {a : Option Addr} {ss : List ByteArray} {B : Nat} (H : StrsAt w a ss) (hB : ∀ ad, a = some ad → ad.block < B) (hb : Below B w w') : StrsAt w' a ss := by
  intro i h
  obtain ⟨b, o, ha, hc⟩ := H i h
  exact ⟨b, o, ha, by rw [hb.cell (p := ⟨b, o + i, none⟩) (show b < B from hB _ ha)]; exact hc⟩
theorem StrsAt.nil {w : World} {a : Option Addr} : StrsAt w a [] := fun i h => absurd h (by simp)

/-- the slice v is the call's own and holds the texts ss -/
def OwnS (w : World) (base : Nat) (v : Value) (ss : List ByteArray) : Prop := w.ownsRow base 9 1 v ss.length (ss.map Value.string)
theorem OwnS.read {w : World} {base : Nat} {v : Value} {zs : List ByteArray} (h : OwnS w base v zs) : ∃ a c, v = .slice a zs.length c ∧ StrsAt w a zs := by
  unfold OwnS at h
  have h2 := h.2
  rcases h2 with ⟨rfl, h0⟩ | ⟨g, cap, cur, rfl, hb, hg, hn, hm, hs, ht⟩
  · refine ⟨none, 0, by rw [h0], ?_⟩
    intro i hi; omega
  · refine ⟨some ⟨g, 0, none⟩, cap, rfl, ?_⟩
    intro i hi
    refine ⟨g, 0, rfl, ?_⟩
    rw [Nat.zero_add, h.cellAt i (by omega)]
    simp [hi]
theorem OwnS.len {w : World} {base : Nat} {v : Value} {zs : List ByteArray} (h : OwnS w base v zs) : zs.length ≤ maxLen := by
  rcases h.2 with ⟨_, h0⟩ | ⟨g, cap, cur, rfl, hb, hg, hn, hm, hs, ht⟩
  · rw [h0]; exact Nat.zero_le _
  · omega
theorem OwnS.block {w : World} {base : Nat} {a : Option Addr} {n c : Nat} {zs : List ByteArray} (h : OwnS w base (.slice a n c) zs) (hk : 0 < zs.length) : ∃ g, a = some ⟨g, 0, none⟩ ∧ base ≤ g ∧ n = zs.length ∧ g < w.heap.size := by
  rcases h.2 with ⟨h1, h0⟩ | ⟨g, cap, cur, h1, hb, hg, _⟩
  · omega
  · simp only [Value.slice.injEq] at h1
    obtain ⟨rfl, rfl, rfl⟩ := h1
    exact ⟨g, rfl, hb, rfl, (Array.getElem?_eq_some_iff.1 hg).1⟩
theorem OwnS.grown {w w' : World} {base : Nat} {v : Value} {zs : List ByteArray} (h : OwnS w base v zs) (hb : Below w.heap.size w w') : OwnS w' base v zs :=
  h.kept (row := none) ⟨hb.os, hb.tape, hb.output, hb.size, fun k hk _ => hb.block k hk⟩ (by cases hv : v.ownBlock <;> simp)
theorem OwnS.weak {w : World} {base base' : Nat} {v : Value} {zs : List ByteArray} (h : OwnS w base v zs) (hb : base' ≤ base) : OwnS w base' v zs := by
  refine ⟨h.1, ?_⟩
  rcases h.2 with h2 | ⟨g, cap, cur, h1, hb', r⟩
  · exact Or.inl h2
  · exact Or.inr ⟨g, cap, cur, h1, by omega, r⟩
theorem OwnS.lo {w : World} {base : Nat} {v : Value} {zs : List ByteArray} (h : OwnS w base v zs) : ∀ k, v.ownBlock = some k → base ≤ k := fun k hk => (World.ownsRow.lt h k hk).1
theorem OwnS.hi {w : World} {base : Nat} {v : Value} {zs : List ByteArray} (h : OwnS w base v zs) : ∀ k, v.ownBlock = some k → k < w.heap.size := fun k hk => (World.ownsRow.lt h k hk).2
theorem OwnS.cellAt {w : World} {base g n c : Nat} {zs : List ByteArray} (h : OwnS w base (.slice (some ⟨g, 0, none⟩) n c) zs) (hn : n = zs.length) {k : Nat} (hk : k < zs.length) :
    ∃ z, zs[k]? = some z ∧ w.cell? ⟨g, k, none⟩ = some (.string z) ∧ w.frozen? ⟨g, k, none⟩ = false := by
  subst hn
  refine ⟨zs[k], by simp [hk], ?_, h.frozenAt k⟩
  rw [World.ownsRow.cellAt h k (by omega)]
  simp [hk]
theorem OwnS.stored {w : World} {base g n c : Nat} {zs : List ByteArray} (h : OwnS w base (.slice (some ⟨g, 0, none⟩) n c) zs) (hn : n = zs.length) (k : Nat) (z : ByteArray) :
    OwnS (w.setCell ⟨g, k, none⟩ (.string z)) base (.slice (some ⟨g, 0, none⟩) n c) (zs.set k z) ∧ w.grownBy (w.setCell ⟨g, k, none⟩ (.string z)) (some g) := by
  subst hn
  have hst := World.ownsRow.stored (h := h) k (.string z)
  refine ⟨?_, hst.2⟩
  unfold OwnS
  rw [List.map_set, List.length_set]
  exact hst.1
theorem OwnS.of_made {w : World} {base : Nat} {v : Value} {n : Nat} (h : w.ownsRow base 9 1 v n (madeCells #[.string ⟨#[]⟩] n).toList) : OwnS w base v (List.replicate n ⟨#[]⟩) := by
  unfold OwnS
  rw [toList_madeCells_one] at h
  simpa using h
/-- after j rounds of a copy -/
def CopiedS (w : World) (base g : Nat) (xs : List ByteArray) (j : Nat) : Prop :=
  ∃ zs : List ByteArray, zs.length = xs.length ∧ OwnS w base (.slice (some ⟨g, 0, none⟩) xs.length xs.length) zs ∧ zs.take j = xs.take j
theorem CopiedS.step {w : World} {base g : Nat} {xs : List ByteArray} {j : Nat} {x : ByteArray} (h : CopiedS w base g xs j) (hx : xs[j]? = some x) : CopiedS (w.setCell ⟨g, j, none⟩ (.string x)) base g xs (j + 1) := by
  obtain ⟨zs, hl, ho, ht⟩ := h
  have hj : j < xs.length := (List.getElem?_eq_some_iff.1 hx).1
  refine ⟨zs.set j x, by simpa using hl, (ho.stored hl.symm j x).1, ?_⟩
  rw [take_snoc' hx, take_snoc' (zs := zs.set j x) (k := j) (z := x) (by simp [hl, hj]), List.take_set_of_le (Nat.le_refl _), ht]
theorem CopiedS.fin {w : World} {base g : Nat} {xs : List ByteArray} (h : CopiedS w base g xs xs.length) : OwnS w base (.slice (some ⟨g, 0, none⟩) xs.length xs.length) xs := by
  obtain ⟨zs, hl, ho, ht⟩ := h
  rw [List.take_of_length_le (by omega), List.take_of_length_le (by omega)] at ht
  rwa [ht] at ho

end Go.Proofs.YtlcglclojlffgaaGreatDoor
namespace Go.Proofs.YtlcglclojlffgaaGreatDoor
open Go.RowKit

theorem IntBlk.last {W : World} {b : Nat} {l : List Int} (hb : b = W.heap.size) : IntBlk (W.alloc (intsO l)) b l := by subst hb; exact push_at _ _
theorem IntBlk.up {W : World} {o : Obj} {b : Nat} {l : List Int} (h : IntBlk W b l) : IntBlk (W.alloc o) b l := h.below (ba1 _ _)
/-- a row of families written at once -/
theorem World.ownsRow_lit' {W : World} {base b : Nat} {xs : List FmR} {C : Array Value} (hb : base ≤ W.heap.size) (he : b = W.heap.size) (hC : C.toList = xs.flatMap fmE.enc) (hl : xs.length = 5 := by rfl) : fmE.Own (W.alloc (.cells C 123 (0, 0))) base (.slice (some ⟨b, 0, none⟩) 5 5) xs := by
  subst he
  have h := World.ownsRow_lit (base := base) (e := 123) (size := 8) W C 5 hb (by unfold maxLen; omega) (by
    have h2 := fmE.flat_len xs
    rw [← hC, hl] at h2
    exact h2)
  unfold Enc.Own
  rw [hl, ← hC]
  exact h
set_option maxRecDepth 100000 in
set_option maxHeartbeats 8000000 in
theorem spLibrary_any (w : World) :
    Calls Tryz.prog 88 #[] w fun e w' => ∃ v xs, e = .returned v ∧ xs.map FmR.f = libF ∧ fmE.Own w' w.heap.size v xs ∧ (∀ y ∈ xs, IntBlk w' y.b1 y.f.sizes ∧ IntBlk w' y.b2 y.f.levels) ∧ Below w.heap.size w w' := by
  go_enter Tryz.func88, Tryz.ntmps88
  go_wp2_with fail
  refine (spFieldOf_any 16 4 19 (by decide) least4 _).mono ?_
  rintro e w1 ⟨rfl, hb1⟩
  have HB1 := Lib.hid hb1
  clear hb1
  go_wp2_with fail
  refine (spFieldOf_any 64 6 67 (by decide) least6 _).mono ?_
  rintro e w2 ⟨rfl, hb2⟩
  have KA2 := Lib.hid (blkK hb2 (push_at _ _))
  have HB2 := Lib.hid (bt0 (bt0 HB1.out (ba1 _ _) (Nat.le_refl _)) hb2 (Nat.le_refl _))
  clear hb2
  go_wp2_with fail
  refine (spFieldOf_any 256 8 285 (by decide) least8 _).mono ?_
  rintro e w3 ⟨rfl, hb3⟩
  have KA3 := Lib.hid (blkK hb3 (blkK (ba1 _ _) KA2.out))
  have KB3 := Lib.hid (blkK hb3 (push_at _ _))
  have HB3 := Lib.hid (bt0 (bt0 HB2.out (ba1 _ _) (Nat.le_refl _)) hb3 (Nat.le_refl _))
  clear hb3
  go_wp2_with fail
  refine (spFieldOf_any 32 5 37 (by decide) least5 _).mono ?_
  rintro e w4 ⟨rfl, hb4⟩
  have KA4 := Lib.hid (blkK hb4 (blkK (ba1 _ _) KA3.out))
  have KB4 := Lib.hid (blkK hb4 (blkK (ba1 _ _) KB3.out))
  have KC4 := Lib.hid (blkK hb4 (push_at _ _))
  have HB4 := Lib.hid (bt0 (bt0 HB3.out (ba1 _ _) (Nat.le_refl _)) hb4 (Nat.le_refl _))
  clear hb4
  obtain ⟨hcA, hfA⟩ := heap_cellR KA4.out
  obtain ⟨hcB, hfB⟩ := heap_cellR KB4.out
  obtain ⟨hcC, hfC⟩ := heap_cellR KC4.out
  have zA := blkLt KA4.out
  have zB := blkLt KB4.out
  have zC := blkLt KC4.out
  have zB1 : w2.heap.size < w4.heap.size + 1 := by omega
  have zB2 : w2.heap.size < w4.heap.size + 1 + 1 := by omega
  have zC1 : w3.heap.size < w4.heap.size + 1 := by omega
  have zC2 : w3.heap.size < w4.heap.size + 1 + 1 := by omega
  have zC3 : w3.heap.size < w4.heap.size + 1 + 1 + 1 := by omega
  have zC4 : w3.heap.size < w4.heap.size + 1 + 1 + 1 + 1 := by omega
  have zD1 : w4.heap.size < w4.heap.size + 1 := by omega
  have zD2 : w4.heap.size < w4.heap.size + 1 + 1 := by omega
  have zD3 : w4.heap.size < w4.heap.size + 1 + 1 + 1 := by omega
  have zD4 : w4.heap.size < w4.heap.size + 1 + 1 + 1 + 1 := by omega
  have zD5 : w4.heap.size < w4.heap.size + 1 + 1 + 1 + 1 + 1 := by omega
  have zD6 : w4.heap.size < w4.heap.size + 1 + 1 + 1 + 1 + 1 + 1 := by omega
  have zD7 : w4.heap.size < w4.heap.size + 1 + 1 + 1 + 1 + 1 + 1 + 1 := by omega
  have zD8 : w4.heap.size < w4.heap.size + 1 + 1 + 1 + 1 + 1 + 1 + 1 + 1 := by omega
  go_wp2_with fail
  go_ret
  refine ⟨_, [⟨⟨⟨#[116, 105, 108, 101]⟩, 1, 2, 4, 19, [17, 21, 25], 0, [20, 40]⟩, (w4.heap.size + 1), (w4.heap.size + 1 + 1)⟩, ⟨⟨⟨#[112, 97, 110, 101, 108]⟩, 1, 2, 6, 67, [17, 21, 25, 29, 33], 0, [15, 30, 60]⟩, (w4.heap.size + 1 + 1 + 1), (w4.heap.size + 1 + 1 + 1 + 1)⟩, ⟨⟨⟨#[112, 108, 97, 116, 101]⟩, 1, 2, 8, 285, [17, 21, 25, 29, 33, 37, 41], 0, [10, 20, 30, 50]⟩, (w4.heap.size + 1 + 1 + 1 + 1 + 1), (w4.heap.size + 1 + 1 + 1 + 1 + 1 + 1)⟩,
    ⟨⟨⟨#[115, 116, 97, 99, 107]⟩, 2, 2, 5, 37, [4, 6, 8, 12, 16, 24], 4, [25, 50]⟩, (w4.heap.size + 1 + 1 + 1 + 1 + 1 + 1 + 1), (w4.heap.size + 1 + 1 + 1 + 1 + 1 + 1 + 1 + 1)⟩, ⟨⟨⟨#[114, 105, 98, 98, 111, 110]⟩, 2, 2, 5, 37, [3, 4, 5], 8, [30]⟩, (w4.heap.size + 1 + 1 + 1 + 1 + 1 + 1 + 1 + 1 + 1), (w4.heap.size + 1 + 1 + 1 + 1 + 1 + 1 + 1 + 1 + 1 + 1)⟩], rfl, rfl, ?_, ?_, ?_⟩
  · have hw4 := HB4.out.size
    exact World.ownsRow_lit' (by simp; omega) (by simp) rfl
  · intro y hy
    simp only [List.mem_cons, List.not_mem_nil, or_false] at hy
    rcases hy with rfl | rfl | rfl | rfl | rfl
    · constructor
      · iterate 10 (refine IntBlk.up ?_)
        exact IntBlk.last (l := [17, 21, 25]) (by simp)
      · iterate 9 (refine IntBlk.up ?_)
        exact IntBlk.last (l := [20, 40]) (by simp)
    · constructor
      · iterate 8 (refine IntBlk.up ?_)
        exact IntBlk.last (l := [17, 21, 25, 29, 33]) (by simp)
      · iterate 7 (refine IntBlk.up ?_)
        exact IntBlk.last (l := [15, 30, 60]) (by simp)
    · constructor
      · iterate 6 (refine IntBlk.up ?_)
        exact IntBlk.last (l := [17, 21, 25, 29, 33, 37, 41]) (by simp)
      · iterate 5 (refine IntBlk.up ?_)
        exact IntBlk.last (l := [10, 20, 30, 50]) (by simp)
    · constructor
      · iterate 4 (refine IntBlk.up ?_)
        exact IntBlk.last (l := [4, 6, 8, 12, 16, 24]) (by simp)
      · iterate 3 (refine IntBlk.up ?_)
        exact IntBlk.last (l := [25, 50]) (by simp)
    · constructor
      · iterate 2 (refine IntBlk.up ?_)
        exact IntBlk.last (l := [3, 4, 5]) (by simp)
      · iterate 1 (refine IntBlk.up ?_)
        exact IntBlk.last (l := [30]) (by simp)
  · have hw4 := HB4.out.size
    iterate 11 (refine Below.alloc ?_ (by simp; omega) _)
    refine Below.alloc ?_ hw4 _
    exact HB4.out

end Go.Proofs.YtlcglclojlffgaaGreatDoor
namespace Go.Proofs.YtlcglclojlffgaaGreatDoor
open Go.RowKit

set_option maxRecDepth 100000 in
set_option maxHeartbeats 4000000 in
theorem spFamilyNamed_any (nm : ByteArray) (w : World) :
    Calls Tryz.prog 73 #[.string nm] w (RetFN w (famN nm)) := by
  obtain ⟨O, hO⟩ : ∃ O, O = famN nm := ⟨_, rfl⟩
  have HO := Lib.hid hO
  rw [← hO]
  clear hO
  have HR0 := Lib.hid (push_at w (.cells #[.string ⟨#[]⟩, .int .i64 0, .int .i64 0, .int .i64 0, .int .i64 0, .slice none 0 0, .int .i64 0, .slice none 0 0] 123 (0, 0)))
  go_enter Tryz.func73, Tryz.ntmps73
  go_wp2_with fail
  refine (spLibrary_any _).mono ?_
  rintro e w1 ⟨v, xs, rfl, hx, ho, hi, hb⟩
  obtain ⟨a, c, rfl⟩ := ho.read
  have hl : xs.length = 5 := by have := congrArg List.length hx; simpa [libF] using this
  have HF := Lib.hid (HO.out.trans (famN_map hx nm))
  have HR1 := Lib.hid (blkK hb HR0.out)
  have HA := Lib.hid ho.at
  have HI := Lib.hid hi
  have HB1 := Lib.hid (bt1 hb)
  have hz1 : w.heap.size < w1.heap.size := blkLt HR1.out
  clear ho hi hb hx
  go_wp2_with fail
  go_loopw [5] (fun i wr => ∃ k : Nat, k ≤ xs.length ∧ i = .int .i64 k ∧ (xs.take k).find? (fun r => decide (r.f.name = nm)) = none ∧ Below w1.heap.size w1 wr) (fun i _ => xs.length - (intOf i).toNat)
  case atStart => exact ⟨0, Nat.zero_le _, rfl, rfl, Below.refl _ _⟩
  case round =>
    obtain ⟨k, hk, rfl, hnone, hbr⟩ := hrel
    have HNO := Lib.hid hnone
    have HBR := Lib.hid hbr
    have KR := Lib.hid (blkK hbr HR1.out)
    obtain ⟨hcR, hfR⟩ := heap_cellR KR.out
    have hltR := blkLt KR.out
    clear hnone hbr
    by_cases hlt : k < xs.length
    · have hki : (k : Int) < 5 := by omega
      obtain ⟨r, hr⟩ : ∃ r, xs[k]? = some r := by rw [List.getElem?_eq_getElem hlt]; exact ⟨_, rfl⟩
      have HXK := Lib.hid hr
      have hm := List.mem_of_getElem? hr
      obtain ⟨b, o, rfl, hbl, c0, c1, c2, c3, c4, c5, c6, c7⟩ := fm_at (HA.out.below HBR.out) hr
      by_cases hq : r.f.name = nm
      · have HD := Lib.hid (show O = some r.f by rw [HF.out, find_hit HXK.out HNO.out (decide_eq_true hq)]; rfl)
        have hqd : (r.f.name.toList == nm.toList) = true := by rw [hq]; simp
        have HJ := Lib.hid (HI.out r hm)
        clear hr hm
        have HBA := Lib.hid (HJ.out.1.below HBR.out)
        have HBC := Lib.hid (HJ.out.2.below HBR.out)
        have hn1 := blk_ne HBA.out KR.out (by decide)
        have hn2 := blk_ne HBC.out KR.out (by decide)
        clear hq
        go_wp2_with fail
        refine bodyPost_ret (v := .tuple #[.agg #[.string r.f.name, .int .i64 r.f.kind, .int .i64 r.f.fp, .int .i64 r.f.fk, .int .i64 r.f.fg, .slice (some ⟨r.b1, 0, none⟩) r.f.sizes.length r.f.sizes.length, .int .i64 r.f.cols, .slice (some ⟨r.b2, 0, none⟩) r.f.levels.length r.f.levels.length], .int .i64 0]) (by simp [results, Tryz.results73, go_sem, hcR]) rfl ⟨?_, .inl ⟨r.f, r.b1, r.b2, HD.out, rfl, ?_, ?_⟩⟩
        · iterate 8 (refine Below.setCell ?_ (by dsimp only; omega) _)
          exact bt0 HB1.out HBR.out (Nat.le_refl _)
        · iterate 8 (refine IntBlk.set ?_ hn1)
          exact HBA.out
        · iterate 8 (refine IntBlk.set ?_ hn2)
          exact HBC.out
      · have HN2 := Lib.hid (find_miss HXK.out HNO.out (decide_eq_false hq))
        have hqd : (r.f.name.toList == nm.toList) = false := by
          rw [beq_eq_false_iff_ne, ne_eq, ByteArray.toList_eq, ByteArray.toList_eq]; exact fun e => hq (ByteArray.ext (Array.toList_inj.1 e))
        clear hr hm hq
        go_wp2_with fail
        exact ⟨⟨k + 1, by omega, by go_num, HN2.out, HBR.out⟩, by simp [intOf]; omega⟩
    · have hki : ¬ (k : Int) < 5 := by omega
      have HD := Lib.hid (show O = none by
        have h := HNO.out
        rw [List.take_of_length_le (by omega)] at h
        rw [HF.out, h]; rfl)
      go_wp2_with fail
      refine bodyPost_ret (v := .tuple #[.agg #[.string ⟨#[]⟩, .int .i64 0, .int .i64 0, .int .i64 0, .int .i64 0, .slice none 0 0, .int .i64 0, .slice none 0 0], .int .i64 4]) (by simp [results, Tryz.results73, go_sem, hcR]) rfl ⟨?_, .inr ⟨HD.out, rfl⟩⟩
      iterate 8 (refine Below.setCell ?_ (by dsimp only; omega) _)
      exact bt0 HB1.out HBR.out (Nat.le_refl _)

end Go.Proofs.YtlcglclojlffgaaGreatDoor
namespace Go.Proofs.YtlcglclojlffgaaGreatDoor
open Go.RowKit

set_option maxRecDepth 100000 in
set_option maxHeartbeats 1000000 in
theorem spLen_any (m n : Nat) (h1 : 1 ≤ m) (h4 : m ≤ 4) (hn : 1 ≤ n) (hn2 : n ≤ 255) (w : World) :
    Calls Tryz.prog 135 #[.int .i64 (m : Int), .int .i64 (n : Int)] w fun e w' => e = .returned (.int .i64 (segW m n : Nat)) ∧ Below w.heap.size w w' := by
  have HG := Lib.hid (spGroup_any m h1 h4)
  have HW := Lib.hid (fun n hn hg w => spWid_any m n h1 h4 hn hg w)
  obtain ⟨bs, hbs⟩ : ∃ bs : Int, bs = (if m = 3 then (256 : Int) else ((baseM m : Nat) : Int)) := ⟨_, rfl⟩
  rw [← hbs] at HG
  have HT := Lib.hid (show txtW m n = n / grpM m * widM m (grpM m) + if n % grpM m > 0 then widM m (n % grpM m) else 0 from rfl)
  have HTL := Lib.hid (txtW_le m n)
  obtain ⟨hg1, hg3⟩ := grpM_bd m
  have HD := Lib.hid (widM_bd m)
  obtain ⟨s, hs⟩ : ∃ s, s = grpM m := ⟨_, rfl⟩
  rw [← hs] at HG HW HT hg1 hg3
  have hq : (n : Int).tdiv (s : Int) = ((n / s : Nat) : Int) := by rw [Int.tdiv_eq_ediv_of_nonneg (by omega)]; push_cast; rfl
  have hr : (n : Int).tmod (s : Int) = ((n % s : Nat) : Int) := by rw [Int.tmod_eq_emod_of_nonneg (by omega)]; push_cast; rfl
  have hql : n / s ≤ n := Nat.div_le_self _ _
  have hrl : n % s < s := Nat.mod_lt _ hg1
  obtain ⟨q, hqe⟩ : ∃ q, q = n / s := ⟨_, rfl⟩
  obtain ⟨r, hre⟩ : ∃ r, r = n % s := ⟨_, rfl⟩
  rw [← hqe] at hq hql HT
  rw [← hre] at hr hrl HT
  obtain ⟨v, hv⟩ : ∃ v, v = widM m s := ⟨_, rfl⟩
  have hv24 : v ≤ 24 := by have := HD.out s hg1 hg3; omega
  have HV := Lib.hid (fun w => hv ▸ HW.out s hg1 (Nat.le_refl _) w)
  rw [← hv] at HT
  obtain ⟨qv, hqv⟩ : ∃ qv : Nat, qv = q * v := ⟨_, rfl⟩
  have hqvi : (q : Int) * (v : Int) = (qv : Int) := by rw [hqv]; push_cast; rfl
  rw [← hqv] at HT
  have hqvl : qv ≤ 8 * n := by have h1 := HT.out; have h2 := HTL.out; omega
  have hs0 : ¬ ((s : Int) == 0) = true := by rw [beq_iff_eq]; omega
  clear hbs hs hqe hre hv hqv
  go_enter Tryz.func135, Tryz.ntmps135
  go_wp2_with fail
  refine (HG.out w).mono ?_
  rintro e w1 ⟨rfl, rfl⟩
  go_wp2_with fail
  refine wp_region_ext_tail 8 (by kernel_rfl) (by kernel_rfl) ?_
  simp only [List.take_succ_cons, List.take_zero, List.drop_succ_cons, List.drop_zero]
  repeat (go_big_quiet_step ((go_at_call 142; go_must (exact calls_ext _ (HV.out _)))))
  refine wpQuiet_nil ?_
  rintro _ ⟨s9, rfl⟩
  have hb9 := s9.below
  generalize s9.w = w2 at hb9 ⊢
  have HB2 := Lib.hid hb9
  clear hb9 s9
  by_cases hr0 : 0 < r
  · have hri : (0 : Int) < (r : Int) := by omega
    have HE := Lib.hid (show segW m n = 11 + (qv + widM m r) by rw [segW, HT.out, if_pos hr0])
    have HR := Lib.hid (fun w => HW.out r hr0 (by omega) w)
    obtain ⟨u, hu⟩ : ∃ u, u = widM m r := ⟨_, rfl⟩
    have hu24 : u ≤ 24 := by have := HD.out r hr0 (by omega); omega
    rw [← hu] at HE HR
    clear hu
    go_wp2_with fail
    refine (HR.out w2).mono ?_
    rintro e w3 ⟨rfl, hb3⟩
    have HB3 := Lib.hid (bt0 HB2.out hb3 (Nat.le_refl _))
    clear hb3
    go_wp2_with fail
    go_ret
    refine ⟨ret_int ?_, HB3.out⟩
    rw [HE.out]; push_cast; omega
  · have hri : ¬ (0 : Int) < (r : Int) := by omega
    have HE := Lib.hid (show segW m n = 11 + qv by rw [segW, HT.out, if_neg hr0, Nat.add_zero])
    go_wp2_with fail
    go_ret
    refine ⟨ret_int ?_, HB2.out⟩
    rw [HE.out]; push_cast; omega
/-- a cell of the reference's table -/
abbrev clV (x : Ch) : Value := .agg #[.int .i64 x.l, .int .i64 x.c, .int .i64 x.t, .int .i64 x.m]
set_option maxRecDepth 100000 in
set_option maxHeartbeats 1000000 in
theorem spBetter_any (x y : Ch) (w : World) :
    Calls Tryz.prog 136 #[clV x, clV y] w fun e w' => e = .returned (.bool (chB x y)) ∧ Below w.heap.size w w' := by
  obtain ⟨xl, xc, xt, xm⟩ := x
  obtain ⟨yl, yc, yt, ym⟩ := y
  by_cases h1 : xl = yl
  · by_cases h2 : xc = yc
    · by_cases h3 : xt = yt
      · subst h1 h2 h3
        have HE := Lib.hid (show chB ⟨xl, xc, xt, xm⟩ ⟨xl, xc, xt, ym⟩ = decide (xm < ym) by simp [chB])
        dsimp only [clV]
        go_enter Tryz.func136, Tryz.ntmps136
        go_wp2_with fail
        go_ret
        exact ⟨ret_bool HE.out.symm, ba2 _ _ _⟩
      · subst h1 h2
        have HE := Lib.hid (show chB ⟨xl, xc, xt, xm⟩ ⟨xl, xc, yt, ym⟩ = decide (yt < xt) by simp [chB, h3])
        have h3' : (xt == yt) = false := by rw [beq_eq_false_iff_ne]; exact h3
        dsimp only [clV]
        go_enter Tryz.func136, Tryz.ntmps136
        go_wp2_with fail
        go_ret
        exact ⟨ret_bool HE.out.symm, ba2 _ _ _⟩
    · subst h1
      have HE := Lib.hid (show chB ⟨xl, xc, xt, xm⟩ ⟨xl, yc, yt, ym⟩ = decide (xc < yc) by simp [chB, h2])
      have h3' : (xc == yc) = false := by rw [beq_eq_false_iff_ne]; exact h2
      dsimp only [clV]
      go_enter Tryz.func136, Tryz.ntmps136
      go_wp2_with fail
      go_ret
      exact ⟨ret_bool HE.out.symm, ba2 _ _ _⟩
  · have HE := Lib.hid (show chB ⟨xl, xc, xt, xm⟩ ⟨yl, yc, yt, ym⟩ = decide (xl < yl) by simp [chB, h1])
    have h3' : (xl == yl) = false := by rw [beq_eq_false_iff_ne]; exact h1
    dsimp only [clV]
    go_enter Tryz.func136, Tryz.ntmps136
    go_wp2_with fail
    go_ret
    exact ⟨ret_bool HE.out.symm, ba2 _ _ _⟩

end Go.Proofs.YtlcglclojlffgaaGreatDoor
namespace Go.Proofs.YtlcglclojlffgaaGreatDoor
open Go.RowKit

theorem infoL : (Tryz.prog.info? 183).map (fun i => (i.zero, i.size, i.bytes)) = some (some (.agg #[.int .i64 0, .int .i64 0, .int .i64 0, .int .i64 0]), 4, 32) := by kernel_rfl
theorem make_cl (n : Nat) (hn : n ≤ 100000) (w : World) :
    (Instr.makeSlice 184 (.int .i64 (n : Int)) (.int .i64 (n : Int))).run Tryz.prog w = .ok (.slice (some ⟨w.heap.size, 0, none⟩) n n) (w.alloc (.cells (madeCells #[.int .i64 0, .int .i64 0, .int .i64 0, .int .i64 0] (n * 4)) 183)) := by
  obtain ⟨i0, hi, hz0, hz1, hz2⟩ := info_parts infoL
  have := run_make (P := Tryz.prog) w 184 183 i0 _ Tryz.underlying184 hi hz0 .i64 .i64 n n (by omega) (Int.le_refl _) (by rw [hz2]; omega) (by omega)
  rw [hz1] at this
  simpa [Value.cells] using this
theorem TabAt.made (w : World) (n : Nat) : TabAt (w.alloc (.cells (madeCells #[.int .i64 0, .int .i64 0, .int .i64 0, .int .i64 0] (n * 4)) 183)) w.heap.size n (fun _ => chZ) := by
  refine ⟨_, _, push_at _ _, size_madeCells _ _, fun i hi => ⟨?_, ?_, ?_, ?_⟩⟩
  all_goals exact made_four _ _ _ (by omega)
/-- the table while the cell k is made -/
def tabS (s : List UInt8) (k : Nat) (cur : Ch) (i : Nat) : Ch := if i = k then cur else tabF s (k + 1) i
theorem tabS_start (s : List UInt8) (k i : Nat) : tabS s k chZ i = tabF s (k + 1) i := by
  unfold tabS tabF
  by_cases e : i = k
  · rw [if_pos e, if_pos (by omega)]
  · rw [if_neg e]
theorem tabS_end (s : List UInt8) (k i : Nat) : tabS s k (hdC (s.drop k)) i = tabF s k i := by
  unfold tabS tabF
  by_cases e : i = k
  · subst e; rw [if_pos rfl, if_neg (by omega)]
  · rw [if_neg e]
    by_cases h : i < k
    · rw [if_pos h, if_pos (by omega)]
    · rw [if_neg h, if_neg (by omega)]

set_option maxRecDepth 100000 in
set_option maxHeartbeats 4000000 in
theorem spTable_any (s : ByteArray) (w : World) (hs : s.size ≤ 400) :
    Calls Tryz.prog 121 #[.string s] w fun e w' => e = .returned (.slice (some ⟨w.heap.size, 0, none⟩) (s.size + 1) (s.size + 1)) ∧ TabAt w' w.heap.size (s.size + 1) (tabF s.data.toList 0) ∧ Below w.heap.size w w' := by
  have hmk := make_cl (s.size + 1) (by omega)
  push_cast at hmk
  obtain ⟨S, hS⟩ : ∃ S, S = s.data.toList := ⟨_, rfl⟩
  have hSl : S.length = s.size := by rw [hS]; rfl
  have HS := Lib.hid hS
  have HSL := Lib.hid hSl
  have HT0 : Hid (TabAt (w.alloc (.cells (madeCells #[.int .i64 0, .int .i64 0, .int .i64 0, .int .i64 0] ((s.size + 1) * 4)) 183)) w.heap.size (s.size + 1) (tabF S s.size)) := Lib.hid ((TabAt.made w (s.size + 1)).like (fun i hi => by
    unfold tabF
    by_cases h : i < s.size
    · rw [if_pos h]
    · rw [if_neg h, List.drop_eq_nil_of_le (by omega)]; rfl))
  rw [← hS]
  clear hS hSl
  go_enter Tryz.func121, Tryz.ntmps121
  go_wp2_with fail
  clear hmk
  go_loopw [5, 6, 7, 8, 9, 10] (fun a _ _ _ _ _ wr => ∃ k : Nat, k ≤ s.size ∧ a = .int .i64 ((k : Int) - 1) ∧ TabAt wr w.heap.size (s.size + 1) (tabF S k) ∧ Below w.heap.size w wr) (fun a _ _ _ _ _ _ => (intOf a + 1).toNat)
  case atStart => exact ⟨s.size, Nat.le_refl _, rfl, HT0.out, ba1 _ _⟩
  case round =>
    obtain ⟨k, hk, rfl, ht, hb⟩ := hrel
    have HT := Lib.hid ht
    have HB := Lib.hid hb
    clear ht hb
    obtain ⟨wo, rfl⟩ : ∃ wo : World, wo = wr := ⟨_, rfl⟩
    rcases k with - | k
    · have hdec : decide ((0 : Int) ≤ ((0 : Nat) : Int) - 1) = false := by decide
      go_wp2_with fail
      go_ret
      exact ⟨rfl, HT.out, HB.out⟩
    · have hdec : decide ((0 : Int) ≤ ((k + 1 : Nat) : Int) - 1) = true := by simp
      have hki : ((k + 1 : Nat) : Int) - 1 = (k : Int) := by omega
      rw [hki] at hdec ⊢
      have hkn : k < s.size := by omega
      obtain ⟨cl, hcl⟩ : ∃ cl, cl = S.drop k := ⟨_, rfl⟩
      obtain ⟨l, hl⟩ : ∃ l, l = S.drop (k + 1) := ⟨_, rfl⟩
      obtain ⟨c, hcb⟩ : ∃ c, S[k]? = some c := ⟨_, List.getElem?_eq_getElem (by rw [HSL.out]; exact hkn)⟩
      have HCL := Lib.hid (show cl = c :: l by
        rw [hcl, hl]
        obtain ⟨hk', e⟩ := List.getElem?_eq_some_iff.1 hcb
        rw [List.drop_eq_getElem_cons hk', e])
      have hcll : cl.length = s.size - k := by rw [hcl, List.length_drop, HSL.out]
      have hll : l.length = s.size - (k + 1) := by rw [hl, List.length_drop, HSL.out]
      have HCLL := Lib.hid hcll
      have HLL := Lib.hid hll
      have HCLe := Lib.hid hcl
      have HLe := Lib.hid hl
      have HT1 := Lib.hid (HT.out.like (fun i _ => tabS_start S k i))
      clear hcl hl hcb hcll hll HT
      go_wp2_with fail
      go_loopw [6, 7, 8, 9, 10] (fun fo i _ _ _ wr => ∃ m : Nat, 1 ≤ m ∧ m ≤ 5 ∧ i = .int .i64 m ∧ fo = .bool (!decide ((modC cl (tabC l) (m - 1)).c = 0)) ∧ TabAt wr w.heap.size (s.size + 1) (tabS S k (modC cl (tabC l) (m - 1))) ∧ Below w.heap.size w wr) (fun _ i _ _ _ _ => 5 - (intOf i).toNat)
      case atStart => exact ⟨1, by omega, by omega, rfl, rfl, HT1.out, HB.out⟩
      case round =>
        obtain ⟨m, hm1, hm5, rfl, rfl, ht, hb⟩ := hrel
        have HT2 := Lib.hid ht
        have HB2 := Lib.hid hb
        clear ht hb
        obtain ⟨wp, rfl⟩ : ∃ wp : World, wp = wr := ⟨_, rfl⟩
        by_cases hlt : m ≤ 4
        · have hdec : decide ((m : Int) ≤ 4) = true := by simp; omega
          go_wp2_with fail
          go_loopw [6, 8, 9, 10] (fun fo i _ _ wr => ∃ n : Nat, 1 ≤ n ∧ n ≤ runL m cl + 1 ∧ i = .int .i64 n ∧ fo = .bool (!decide ((tryC (tabC l) m (n - 1) (modC cl (tabC l) (m - 1))).c = 0)) ∧ TabAt wr w.heap.size (s.size + 1) (tabS S k (tryC (tabC l) m (n - 1) (modC cl (tabC l) (m - 1)))) ∧ Below w.heap.size w wr) (fun _ i _ _ _ => runL m cl + 1 - (intOf i).toNat)
          case atStart => exact ⟨1, by omega, by omega, rfl, rfl, HT2.out, HB2.out⟩
          case round =>
            obtain ⟨n, hn1, hnR, rfl, rfl, ht, hb⟩ := hrel
            have HT3 := Lib.hid ht
            have HB3 := Lib.hid hb
            obtain ⟨hR1, hR2⟩ := runL_le m cl
            rw [HCLL.out] at hR1
            have HRI := Lib.hid (runL_in m cl)
            have HRO := Lib.hid (runL_out m cl)
            have HMS := Lib.hid (show modC cl (tabC l) m = tryC (tabC l) m (runL m cl) (modC cl (tabC l) (m - 1)) by
              obtain ⟨j, rfl⟩ : ∃ j, m = j + 1 := ⟨m - 1, by omega⟩
              rw [modC]; rfl)
            obtain ⟨R, hRe⟩ : ∃ R, R = runL m cl := ⟨_, rfl⟩
            rw [← hRe] at hnR hR1 hR2 HRI HRO HMS
            have HRe := Lib.hid hRe
            clear ht hb hRe
            by_cases hln : n ≤ R
            · obtain ⟨q, hq⟩ : ∃ q, q = k + n := ⟨_, rfl⟩
              obtain ⟨p, hp⟩ : ∃ p, p = k + (n - 1) := ⟨_, rfl⟩
              have hqi : (k : Int) + (n : Int) = (q : Int) := by omega
              have hqp : (q : Int) - 1 = (p : Int) := by omega
              have hqs : (q : Int) ≤ (s.size : Int) := by omega
              have hn255 : (n : Int) ≤ 255 := by omega
              have hps : p < s.size := by omega
              have hpi : (p : Int) < (s.size : Int) := by omega
              obtain ⟨z, hz⟩ : ∃ z : Nat, s[p].toNat = z := ⟨_, rfl⟩
              have hz2 : z < 256 := by rw [← hz]; exact UInt8.toNat_lt _
              have hzc : cl[n - 1]? = some s[p] := by
                rw [HCLe.out, List.getElem?_drop, HS.out, ← hp]
                exact List.getElem?_eq_getElem (by simpa using hps)
              have hin := HRI.out (n - 1) s[p] (by omega) hzc
              rw [inM, decide_eq_true_eq, hz] at hin
              have HCH := Lib.hid (fun w => spChar_any m hm1 hlt (z : Int) (by omega) (by omega) w)
              obtain ⟨v, hv⟩ : ∃ v, v = valC m (z : Int) := ⟨_, rfl⟩
              rw [← hv] at HCH hin
              have hv0 : ¬ v < 0 := by omega
              obtain ⟨x1, x2, x3, x4, -⟩ := HT3.out.cell (i := q) (by omega)
              have htf : tabS S k (tryC (tabC l) m (n - 1) (modC cl (tabC l) (m - 1))) q = hdC (S.drop q) := by unfold tabS tabF; rw [if_neg (by omega), if_neg (by omega)]
              obtain ⟨⟨rl, rc, rt, rm⟩, hre⟩ : ∃ x : Ch, x = hdC (S.drop q) := ⟨_, rfl⟩
              rw [htf, ← hre] at x1 x2 x3 x4
              dsimp only at x1 x2 x3 x4
              have HRE := Lib.hid hre
              have hlt2 := HT3.out.lt
              have hqi2 : (q : Int) < (s.size : Int) + 1 := by omega
              have HQ := Lib.hid hq
              have HCRD := Lib.hid (Nat.le_trans (show n - 1 ≤ s.size - (k + 1) by omega) (Nat.le_of_eq HLL.out.symm))
              obtain ⟨⟨tl, tc, tt, tm⟩, hte⟩ : ∃ x : Ch, x = tryC (tabC l) m (n - 1) (modC cl (tabC l) (m - 1)) := ⟨_, rfl⟩
              rw [← hte] at HT3 ⊢
              have HTE := Lib.hid hte
              clear htf hre hq hp hzc hin hv hte
              go_wp2_with fail
              refine (HCH.out wr).mono ?_
              rintro e w4 ⟨rfl, hb4⟩
              have HT4 := Lib.hid (HT3.out.below hb4)
              have HB4 := Lib.hid (bt0 HB3.out hb4 (Nat.le_refl _))
              replace x1 := below_cell hb4 x1
              replace x2 := below_cell hb4 x2
              replace x3 := below_cell hb4 x3
              replace x4 := below_cell hb4 x4
              replace hlt2 := HT4.out.lt
              clear hb4 HCH hz
              go_wp2_with fail
              obtain ⟨rb, hrb⟩ : ∃ rb, rb = w4.heap.size := ⟨_, rfl⟩
              obtain ⟨w6, hw6⟩ : ∃ w6, w6 = w4.alloc (.cells #[.int .i64 rl, .int .i64 rc, .int .i64 rt, .int .i64 rm] 183 (0, 0)) := ⟨_, rfl⟩
              have HT6 := Lib.hid (show TabAt w6 w.heap.size (s.size + 1) (tabS S k ⟨tl, tc, tt, tm⟩) by rw [hw6]; exact HT4.out.below (ba1 _ _))
              have HB6 := Lib.hid (show Below w.heap.size w w6 by rw [hw6]; exact bt0 HB4.out (ba1 _ _) (Nat.le_refl _))
              have hr0 : w6.cell? ⟨rb, 0, none⟩ = some (.int .i64 rl) := by rw [hw6, hrb, (heap_cellR (push_at _ _)).1]; rfl
              have hr1 : w6.cell? ⟨rb, 1, none⟩ = some (.int .i64 rc) := by rw [hw6, hrb, (heap_cellR (push_at _ _)).1]; rfl
              have hs6 : w6.heap.size = rb + 1 := by rw [hw6, hrb]; simp
              have hBr : w.heap.size < rb := by rw [hrb]; exact hlt2
              have HLEN := Lib.hid (fun w => spLen_any m n hm1 hlt hn1 (by omega) w)
              have hVb := segW_le m n hn1
              obtain ⟨V, hV⟩ : ∃ V, V = segW m n := ⟨_, rfl⟩
              rw [← hV] at HLEN hVb
              have HV := Lib.hid hV
              have hbd := hdC_bd _ (S.drop q) (Nat.le_refl _)
              rw [← HRE.out] at hbd
              obtain ⟨hb1, hb2, hb3, hb4⟩ := hbd
              rw [List.length_drop, HSL.out] at hb2 hb4
              dsimp only at hb1 hb2 hb3 hb4
              have hbl : 0 ≤ rl ∧ rl ≤ 7600 := by omega
              have hbc : 0 ≤ rc ∧ rc ≤ 400 := by omega
              try rw [← hw6]
              try rw [← hrb]
              clear hw6 hrb hV hb1 hb2 hb3 hb4 x1 x2 x3 x4
              refine wp_region_rt (Keep := KB) [53, 54, 55, 56, 57, 58, 59, 60, 61, 62, 63, 64, 10] (fun us => _)
                [spE (.int .i64 (m : Int)),
                 spE (.int .i64 (n : Int)),
                 spE (.int .i64 (V : Int)),
                 spE (.pointer (some ⟨rb, 0, none⟩)),
                 spE (.int .i64 rl),
                 spE (.int .i64 ((V : Int) + rl)),
                 spE (.pointer (some ⟨rb, 1, none⟩)),
                 spE (.int .i64 rc),
                 spE (.int .i64 (rc + 1)),
                 spE (.int .i64 (n : Int)),
                 spE (.int .i64 (m : Int)),
                 spE (.agg #[.int .i64 ((V : Int) + rl), .int .i64 (rc + 1), .int .i64 (n : Int), .int .i64 (m : Int)]),
                 spBox (rb + 1) #[.int .i64 0, .int .i64 0, .int .i64 0, .int .i64 0] 183]
                (StX w6) (by kernel_rfl) (by kernel_rfl) (Nat.le_of_ble_eq_true rfl) (fun us => by simp [over, List.mapIdx_cons]; exact rfl) (stX0 _) kbr ?_ ?_
              · refine ⟨?_, ?_, ?_, ?_, ?_, ?_, ?_, ?_, ?_, ?_, ?_, ?_, ?_, trivial⟩
                all_goals (intro us wx hst hd; rw [if_pos (by kernel_rfl)]; dsimp only)
                · clear hd
                  go_simp
                  exact kb_same hst rfl
                · clear hd
                  go_simp
                  exact kb_same hst rfl
                · have d53 : us 53 = (.int .i64 (m : Int)) := hd ⟨0, .data⟩ (by simp) rfl
                  have d54 : us 54 = (.int .i64 (n : Int)) := hd ⟨1, .data⟩ (by simp) rfl
                  clear hd
                  go_simp
                  exact (HLEN.out wx).mono fun e w' ⟨he, hb⟩ => ⟨_, he, kb_below hst hb rfl⟩
                · clear hd
                  go_simp
                  exact kb_same hst rfl
                · have d56 : us 56 = (.pointer (some ⟨rb, 0, none⟩)) := hd ⟨3, .data⟩ (by simp) rfl
                  clear hd
                  have hW := below_cell hst hr0
                  go_simp
                  exact kb_same hst rfl
                · have d55 : us 55 = (.int .i64 (V : Int)) := hd ⟨2, .data⟩ (by simp) rfl
                  have d57 : us 57 = (.int .i64 rl) := hd ⟨4, .data⟩ (by simp) rfl
                  clear hd
                  have hw : IntKind.i64.wrap ((V : Int) + rl) = (V : Int) + rl := by rw [IntKind.wrap_i64]; omega
                  go_simp
                  exact kb_same hst rfl
                · clear hd
                  go_simp
                  exact kb_same hst rfl
                · have d59 : us 59 = (.pointer (some ⟨rb, 1, none⟩)) := hd ⟨6, .data⟩ (by simp) rfl
                  clear hd
                  have hW := below_cell hst hr1
                  go_simp
                  exact kb_same hst rfl
                · have d60 : us 60 = (.int .i64 rc) := hd ⟨7, .data⟩ (by simp) rfl
                  clear hd
                  have hw : IntKind.i64.wrap (rc + 1) = rc + 1 := by rw [IntKind.wrap_i64]; omega
                  go_simp
                  exact kb_same hst rfl
                · clear hd
                  go_simp
                  exact kb_same hst rfl
                · clear hd
                  go_simp
                  exact kb_same hst rfl
                · have d58 : us 58 = (.int .i64 ((V : Int) + rl)) := hd ⟨5, .data⟩ (by simp) rfl
                  have d61 : us 61 = (.int .i64 (rc + 1)) := hd ⟨8, .data⟩ (by simp) rfl
                  have d62 : us 62 = (.int .i64 (n : Int)) := hd ⟨9, .data⟩ (by simp) rfl
                  have d63 : us 63 = (.int .i64 (m : Int)) := hd ⟨10, .data⟩ (by simp) rfl
                  clear hd
                  go_simp
                  exact kb_same hst rfl
                · clear hd
                  go_simp
                  exact kb_new hst (by omega)
              · intro us wx hst hd
                have d10 := hd 12 (by simp)
                have d64 : us 64 = (.agg #[.int .i64 ((V : Int) + rl), .int .i64 (rc + 1), .int .i64 (n : Int), .int .i64 (m : Int)]) := hd 11 (by simp)
                clear hd
                simp only [List.drop, List.length]
                rw [d64]
                obtain ⟨xb, hxb, hxb1, hxg⟩ := d10
                rw [hxb]
                have HT7 := Lib.hid (HT6.out.below hst)
                have HB7 := Lib.hid (bt0 HB6.out hst (Nat.le_refl _))
                have HX7 : Hid (BxC wx xb chZ) := Lib.hid ⟨_, _, hxg, rfl, fun i hi => by
                  obtain rfl : i = 0 := by omega
                  exact ⟨rfl, rfl, rfl, rfl⟩⟩
                obtain ⟨z1, z2, z3, z4, z5⟩ := HX7.out.cells
                have hlx := HX7.out.lt
                have hne : w.heap.size ≠ xb := by omega
                have hne' : xb ≠ w.heap.size := by omega
                have HG1 := Lib.hid (four_grown wx xb 0 1 2 3 (.int .i64 ((V : Int) + rl)) (.int .i64 (rc + 1)) (.int .i64 (n : Int)) (.int .i64 (m : Int)))
                have HX8 := Lib.hid (HX7.out.set ⟨(V : Int) + rl, rc + 1, n, m⟩)
                have HT8 := Lib.hid (HT7.out.kept (HG1.out.block w.heap.size HT7.out.lt (fun e => by have := Option.some.inj e; omega)))
                have HB8 := Lib.hid (HB7.out.trans (below_of_grownBy HG1.out HB7.out.size (fun j e => by cases e; omega)))
                clear hxg hxb d64 hst hr0 hr1
                have HCD := Lib.hid (show candC (tabC l) m n = ⟨(V : Int) + rl, rc + 1, n, m⟩ by
                  have e : (tabC l).getD (n - 1) chZ = ⟨rl, rc, rt, rm⟩ := by
                    rw [List.getD_eq_getElem?_getD, tabC_at l (n - 1) HCRD.out, HRE.out, HLe.out, List.drop_drop, show k + 1 + (n - 1) = q by rw [HQ.out]; omega]
                    rfl
                  rw [candC, e, ← HV.out])
                have HTN := Lib.hid (show tryC (tabC l) m n (modC cl (tabC l) (m - 1)) = betC ⟨tl, tc, tt, tm⟩ ⟨(V : Int) + rl, rc + 1, n, m⟩ by
                  obtain ⟨j, rfl⟩ : ∃ j, n = j + 1 := ⟨n - 1, by omega⟩
                  rw [tryC, HCD.out, HTE.out]; rfl)
                go_wp2_with fail
                generalize hw8 : ((((wx.setCell ⟨xb, 0, none⟩ (.int .i64 ((V : Int) + rl))).setCell ⟨xb, 1, none⟩ (.int .i64 (rc + 1))).setCell ⟨xb, 2, none⟩ (.int .i64 (n : Int))).setCell ⟨xb, 3, none⟩ (.int .i64 (m : Int))) = w8 at HX8 HT8 HB8 ⊢
                clear hw8 HG1 HX7 HT7 HB7 z1 z2 z3 z4 z5 hlx
                have hrc0 : ((rc + 1 : Int) != 0) = true := by rw [bne_iff_ne]; omega
                have hki9 : (k : Int) < (s.size : Int) + 1 := by omega
                have HKeep := Lib.hid (show ∀ w9, Below w8.heap.size w8 w9 → betC ⟨tl, tc, tt, tm⟩ ⟨(V : Int) + rl, rc + 1, n, m⟩ = ⟨(V : Int) + rl, rc + 1, n, m⟩ →
                    (∃ n_1 : Nat, 1 ≤ n_1 ∧ n_1 ≤ runL m cl + 1 ∧ Value.int .i64 ((n : Int) + 1) = .int .i64 n_1 ∧ Value.bool true = .bool (!decide ((tryC (tabC l) m (n_1 - 1) (modC cl (tabC l) (m - 1))).c = 0)) ∧
                      TabAt ((((w9.setCell ⟨w.heap.size, k * 4, none⟩ (.int .i64 ((V : Int) + rl))).setCell ⟨w.heap.size, k * 4 + 1, none⟩ (.int .i64 (rc + 1))).setCell ⟨w.heap.size, k * 4 + 2, none⟩ (.int .i64 (n : Int))).setCell ⟨w.heap.size, k * 4 + 3, none⟩ (.int .i64 (m : Int))) w.heap.size (s.size + 1) (tabS S k (tryC (tabC l) m (n_1 - 1) (modC cl (tabC l) (m - 1)))) ∧
                      Below w.heap.size w ((((w9.setCell ⟨w.heap.size, k * 4, none⟩ (.int .i64 ((V : Int) + rl))).setCell ⟨w.heap.size, k * 4 + 1, none⟩ (.int .i64 (rc + 1))).setCell ⟨w.heap.size, k * 4 + 2, none⟩ (.int .i64 (n : Int))).setCell ⟨w.heap.size, k * 4 + 3, none⟩ (.int .i64 (m : Int)))) from by
                  intro w9 hb9 hbet
                  refine ⟨n + 1, by omega, by rw [← HRe.out]; omega, by push_cast; rfl, ?_, ?_, ?_⟩
                  · rw [Nat.add_sub_cancel, HTN.out, hbet]
                    have : rc + 1 ≠ 0 := by omega
                    simp [this]
                  · rw [Nat.add_sub_cancel, HTN.out, hbet]
                    refine ((HT8.out.below hb9).set (i := k) (by omega) ⟨(V : Int) + rl, rc + 1, n, m⟩).like (fun i hi => ?_)
                    unfold tabS
                    by_cases e : i = k
                    · rw [if_pos e, if_pos e]
                    · rw [if_neg e, if_neg e, if_neg e]
                  · exact (bt0 HB8.out hb9 (Nat.le_refl _) |>.trans (below_of_grownBy (four_grown w9 w.heap.size (k * 4) (k * 4 + 1) (k * 4 + 2) (k * 4 + 3) _ _ _ _) (bt0 HB8.out hb9 (Nat.le_refl _)).size (fun j e => by cases e; exact Nat.le_refl _))))
                by_cases h0 : tc = 0
                · subst h0
                  have HBET := Lib.hid (show betC ⟨tl, 0, tt, tm⟩ ⟨(V : Int) + rl, rc + 1, n, m⟩ = ⟨(V : Int) + rl, rc + 1, n, m⟩ by rw [betC, if_pos (Or.inl rfl)])
                  have hfd : decide ((0 : Int) ≠ 0) = false := by decide
                  refine wp_region_ext (by kernel_rfl) (by kernel_rfl) ?_
                  repeat (go_big_quiet_step (fail))
                  refine wpQuiet_nil ?_
                  rintro _ ⟨s9, rfl⟩
                  have hb9 := s9.below
                  generalize s9.w = w9 at hb9 ⊢
                  have HX9 := Lib.hid (HX8.out.below hb9)
                  obtain ⟨z1, z2, z3, z4, z5⟩ := HX9.out.cells
                  have hlx := HX9.out.lt
                  have HT9 := Lib.hid (HT8.out.below hb9)
                  obtain ⟨x1, x2, x3, x4, x5⟩ := HT9.out.cell (i := k) (by omega)
                  have hlt9 := HT9.out.lt
                  have HKp := Lib.hid (HKeep.out w9 hb9 HBET.out)
                  clear hb9 s9
                  go_wp2_with fail
                  exact ⟨HKp.out, by rw [← HRe.out]; simp [intOf]; omega⟩
                · have hfd : decide (tc = 0) = false := decide_eq_false h0
                  have H0 := Lib.hid h0
                  obtain ⟨z1, z2, z3, z4, z5⟩ := HX8.out.cells
                  have hlx := HX8.out.lt
                  obtain ⟨x1, x2, x3, x4, x5⟩ := HT8.out.cell (i := k) (by omega)
                  have hlt9 := HT8.out.lt
                  rw [tabS, if_pos rfl] at x1 x2 x3 x4
                  dsimp only at x1 x2 x3 x4 z1 z2 z3 z4
                  have HBTR := Lib.hid (fun w => spBetter_any ⟨(V : Int) + rl, rc + 1, n, m⟩ ⟨tl, tc, tt, tm⟩ w)
                  dsimp only [clV] at HBTR
                  obtain ⟨bb, hbb⟩ : ∃ bb, bb = chB ⟨(V : Int) + rl, rc + 1, n, m⟩ ⟨tl, tc, tt, tm⟩ := ⟨_, rfl⟩
                  rw [← hbb] at HBTR
                  have HBB := Lib.hid hbb
                  clear h0 hbb z5 x5
                  refine wp_region_ext (by kernel_rfl) (by kernel_rfl) ?_
                  repeat (go_big_quiet_step ((go_at_call 136; go_must (exact calls_ext _ (HBTR.out _)))))
                  refine wpQuiet_nil ?_
                  rintro _ ⟨s9, rfl⟩
                  have hb9 := s9.below
                  generalize s9.w = w9 at hb9 ⊢
                  have HX9 := Lib.hid (HX8.out.below hb9)
                  have HT9 := Lib.hid (HT8.out.below hb9)
                  have HB9 := Lib.hid (bt0 HB8.out hb9 (Nat.le_refl _))
                  have HKp := Lib.hid (HKeep.out w9 hb9)
                  clear hb9 s9 x1 x2 x3 x4 z1 z2 z3 z4 hlx hlt9
                  cases bb with
                  | true =>
                    obtain ⟨z1, z2, z3, z4, z5⟩ := HX9.out.cells
                    have hlx := HX9.out.lt
                    obtain ⟨x1, x2, x3, x4, x5⟩ := HT9.out.cell (i := k) (by omega)
                    have hlt9 := HT9.out.lt
                    have HKq := Lib.hid (HKp.out (by rw [betC, if_pos (Or.inr HBB.out.symm)]))
                    go_wp2_with fail
                    exact ⟨HKq.out, by rw [← HRe.out]; simp [intOf]; omega⟩
                  | false =>
                    have HTK := Lib.hid (show tryC (tabC l) m (n + 1 - 1) (modC cl (tabC l) (m - 1)) = ⟨tl, tc, tt, tm⟩ by
                      rw [Nat.add_sub_cancel, HTN.out, betC, if_neg (by rw [← HBB.out]; rintro (h | h); exact H0.out h; cases h)])
                    go_wp2_with fail
                    refine ⟨⟨n + 1, by omega, by rw [← HRe.out]; omega, by go_num, ?_, ?_, HB9.out⟩, by rw [← HRe.out]; simp [intOf]; omega⟩
                    · rw [HTK.out]
                    · rw [HTK.out]; exact HT9.out
            · obtain rfl : n = R + 1 := by omega
              rw [Nat.add_sub_cancel] at HT3 ⊢
              have HMN := Lib.hid (show modC cl (tabC l) (m + 1 - 1) = tryC (tabC l) m R (modC cl (tabC l) (m - 1)) by rw [Nat.add_sub_cancel, HMS.out])
              obtain ⟨cur, hcur⟩ : ∃ cur, cur = tryC (tabC l) m R (modC cl (tabC l) (m - 1)) := ⟨_, rfl⟩
              rw [← hcur] at HT3 HMN ⊢
              clear hcur HMS
              have HEnd := Lib.hid (show ∀ w9, Below wr.heap.size wr w9 → ∃ m_1 : Nat, 1 ≤ m_1 ∧ m_1 ≤ 5 ∧ Value.int .i64 ((m : Int) + 1) = .int .i64 m_1 ∧ Value.bool (!decide (cur.c = 0)) = .bool (!decide ((modC cl (tabC l) (m_1 - 1)).c = 0)) ∧ TabAt w9 w.heap.size (s.size + 1) (tabS S k (modC cl (tabC l) (m_1 - 1))) ∧ Below w.heap.size w w9 from
                fun w9 hb9 => ⟨m + 1, by omega, by omega, by push_cast; rfl, by rw [HMN.out], by rw [HMN.out]; exact HT3.out.below hb9, bt0 HB3.out hb9 (Nat.le_refl _)⟩)
              by_cases hR255 : R = 255
              · subst hR255
                have HEn := Lib.hid (HEnd.out wr (Below.refl _ _))
                have hdec : decide (((255 + 1 : Nat) : Int) ≤ 255) = false := by decide
                go_wp2_with fail
                exact ⟨HEn.out, by simp [intOf]; omega⟩
              · have hn255 : ((R + 1 : Nat) : Int) ≤ 255 := by omega
                obtain ⟨n, hn⟩ : ∃ n, n = R + 1 := ⟨_, rfl⟩
                obtain ⟨q, hq⟩ : ∃ q, q = k + n := ⟨_, rfl⟩
                rw [← hn] at hn255 ⊢
                have hqi : (k : Int) + (n : Int) = (q : Int) := by omega
                by_cases hend : q ≤ s.size
                · obtain ⟨p, hp⟩ : ∃ p, p = k + R := ⟨_, rfl⟩
                  have hqp : (q : Int) - 1 = (p : Int) := by omega
                  have hqs : (q : Int) ≤ (s.size : Int) := by omega
                  have hps : p < s.size := by omega
                  have hpi : (p : Int) < (s.size : Int) := by omega
                  obtain ⟨z, hz⟩ : ∃ z : Nat, s[p].toNat = z := ⟨_, rfl⟩
                  have hz2 : z < 256 := by rw [← hz]; exact UInt8.toNat_lt _
                  have hzc : cl[R]? = some s[p] := by
                    rw [HCLe.out, List.getElem?_drop, HS.out, ← hp]
                    exact List.getElem?_eq_getElem (by simpa using hps)
                  have hin := HRO.out s[p] (by omega) hzc
                  rw [inM, decide_eq_false_iff_not, hz] at hin
                  have HCH := Lib.hid (fun w => spChar_any m hm1 hlt (z : Int) (by omega) (by omega) w)
                  obtain ⟨v, hv⟩ : ∃ v, v = valC m (z : Int) := ⟨_, rfl⟩
                  rw [← hv] at HCH hin
                  have hv0 : v < 0 := by omega
                  clear hn hq hp hzc hin hv hend
                  go_wp2_with fail
                  refine (HCH.out wr).mono ?_
                  rintro e w4 ⟨rfl, hb4⟩
                  have HEn := Lib.hid (HEnd.out w4 hb4)
                  clear hb4 HCH hz HEnd
                  go_wp2_with fail
                  exact ⟨HEn.out, by simp [intOf]; omega⟩
                · have hqs : ¬ (q : Int) ≤ (s.size : Int) := by omega
                  have HEn := Lib.hid (HEnd.out wr (Below.refl _ _))
                  clear hn hq
                  go_wp2_with fail
                  exact ⟨HEn.out, by simp [intOf]; omega⟩
        · have hdec : decide ((m : Int) ≤ 4) = false := by simp; omega
          obtain rfl : m = 5 := by omega
          have HBE := Lib.hid (show modC cl (tabC l) (5 - 1) = hdC (S.drop k) by rw [← HCLe.out, HCL.out]; rfl)
          have HT4 := Lib.hid (HT2.out.like (fun i _ => show tabF S k i = _ by rw [HBE.out, tabS_end]))
          go_wp2_with fail
          exact ⟨⟨k, by omega, by go_num, HT4.out, HB2.out⟩, by simp [intOf]⟩

end Go.Proofs.YtlcglclojlffgaaGreatDoor
namespace Go.Proofs.YtlcglclojlffgaaGreatDoor
open Go.RowKit

/-- the length of the best segmentation -/
def lngC (s : List UInt8) : Int × Int := if s.length ≤ 400 then ((hdC s).l, 0) else (0, 3)
set_option maxRecDepth 100000 in
set_option maxHeartbeats 1000000 in
theorem spBestLen_any (s : ByteArray) (w : World) (hl : s.size ≤ 1048576) :
    Calls Tryz.prog 107 #[.string s] w fun e w' => e = .returned (.tuple #[.int .i64 (lngC s.data.toList).1, .int .i64 (lngC s.data.toList).2]) ∧ Below w.heap.size w w' := by
  have hSl : s.data.toList.length = s.size := rfl
  by_cases hs : s.size ≤ 400
  · have HE := Lib.hid (show lngC s.data.toList = ((hdC s.data.toList).l, 0) by rw [lngC, if_pos (by omega)])
    have hsi : ¬ (400 : Int) < (s.size : Int) := by omega
    go_enter Tryz.func107, Tryz.ntmps107
    go_wp2_with fail
    refine (spTable_any s _ hs).mono ?_
    rintro e w1 ⟨rfl, ht, hb⟩
    obtain ⟨x1, -, -, -, -⟩ := ht.cell (i := 0) (by omega)
    rw [Nat.zero_mul] at x1
    have e0 : tabF s.data.toList 0 0 = hdC s.data.toList := by simp [tabF]
    rw [e0] at x1
    obtain ⟨X, hX⟩ : ∃ X, X = (hdC s.data.toList).l := ⟨_, rfl⟩
    rw [← hX] at x1 HE
    have hlt := ht.lt
    have HB := Lib.hid hb
    have h0 : (0 : Int) < (s.size : Int) + 1 := by omega
    clear ht hb e0 hX hSl
    go_wp2_with fail
    go_ret2
    exact ⟨by rw [HE.out]; rfl, HB.out⟩
  · have HE := Lib.hid (show lngC s.data.toList = (0, 3) by rw [lngC, if_neg (by omega)])
    have hsi : (400 : Int) < (s.size : Int) := by omega
    go_enter Tryz.func107, Tryz.ntmps107
    go_wp2_with fail
    go_ret2
    exact ⟨by rw [HE.out]; rfl, Below.refl _ _⟩

end Go.Proofs.YtlcglclojlffgaaGreatDoor
namespace Go.Proofs.YtlcglclojlffgaaGreatDoor
open Go.RowKit

set_option maxRecDepth 100000 in
set_option maxHeartbeats 4000000 in
theorem spPayloadSize_any {p k g : Int} {F : Fd} (h : FV p k g F) (s : ByteArray) (w : World) (hs : s.size ≤ 1048576) :
    Calls Tryz.prog 90 #[fV F, .string s] w fun e w' => e = .returned (.tuple #[.int .i64 (payN F.k s.data.toList), .int .i64 (payD F.k s.data.toList)]) ∧ Below w.heap.size w w' := by
  have HFI : Hid (∀ w : World, Calls Tryz.prog 105 #[fV F] w fun e w' => e = .returned (.bool true) ∧ Below w.heap.size w w') := Lib.hid (fun w => by have := spField_yes h.b w; rwa [h.v] at this)
  have HWD := Lib.hid (fun w => spWidth_any F h.r.toFdB w)
  have hk3 := h.ok.k3
  have hk8 := h.ok.k8
  have HBL := Lib.hid (fun w => spBestLen_any s w hs)
  obtain ⟨S, hS⟩ : ∃ S, S = s.data.toList := ⟨_, rfl⟩
  have hSl : S.length = s.size := by rw [hS]; rfl
  obtain ⟨kk, hkk⟩ : ∃ kk, kk = F.k := ⟨_, rfl⟩
  obtain ⟨P, hP⟩ : ∃ P, P = payS kk S := ⟨_, rfl⟩
  have HP := Lib.hid hP
  rw [← hS] at HBL ⊢
  rw [fV, ← hkk] at HFI HWD ⊢
  rw [← hkk] at hk3 hk8
  clear h hP hS hkk
  obtain ⟨L, hL⟩ : ∃ L, L = (lngC S).1 := ⟨_, rfl⟩
  obtain ⟨D, hD⟩ : ∃ D, D = (lngC S).2 := ⟨_, rfl⟩
  rw [← hL, ← hD] at HBL
  have hLb : 0 ≤ L ∧ L ≤ 7600 := by
    rw [hL, lngC]
    split
    · have hbd := hdC_bd _ S (Nat.le_refl _)
      have h1 := hbd.1
      have h2 := hbd.2.1
      dsimp only
      omega
    · dsimp only; omega
  obtain ⟨K, hK⟩ : ∃ K : Int, K = (kk : Int) := ⟨_, rfl⟩
  have hKb : 3 ≤ K ∧ K ≤ 8 := by omega
  have HK := Lib.hid hK
  rw [← hK] at HFI HWD ⊢
  obtain ⟨N, hN⟩ : ∃ N, (L + K - 1) / K = N := ⟨_, rfl⟩
  have hNb : 0 ≤ N ∧ N ≤ 7607 := by
    rw [← hN]
    exact ⟨Int.ediv_nonneg (by omega) (by omega), Int.le_trans (Int.ediv_le_self _ (by omega)) (by omega)⟩
  obtain ⟨M, hM⟩ : ∃ M, (if 1 < N then N else 1) = M := ⟨_, rfl⟩
  have hMb : 1 ≤ M ∧ M ≤ 7607 := by rw [← hM]; split <;> omega
  have HPe := Lib.hid (show (D = 0 ∨ D = 3) ∧ P = if D = 0 ∧ M ≤ 1500 then some M else none by
    by_cases h4 : S.length ≤ 400
    · have e1 : L = (hdC S).l := by rw [hL, lngC, if_pos h4]
      have e2 : D = 0 := by rw [hD, lngC, if_pos h4]
      have e : needS kk S = M := by
        unfold needS
        rw [← e1, ← HK.out, hN, ← hM]
        split <;> split <;> omega
      refine ⟨.inl e2, ?_⟩
      rw [HP.out, payS, e]
      by_cases hm : M ≤ 1500
      · rw [if_pos ⟨h4, hm⟩, if_pos ⟨e2, hm⟩]
      · rw [if_neg (by omega), if_neg (by omega)]
    · have e2 : D = 3 := by rw [hD, lngC, if_neg h4]
      refine ⟨.inr e2, ?_⟩
      rw [HP.out, payS, if_neg (by omega), if_neg (by omega)])
  have hkz : (K == 0) = false := by rw [beq_eq_false_iff_ne]; omega
  clear hSl hL hD hK
  have HB0 := Lib.hid (ba1 w (.cells #[.int .i64 2, .int .i64 K, .int .i64 (F.g : Int)] 121 (0, 0)))
  have HX := Lib.hid (push_at w (.cells #[.int .i64 2, .int .i64 K, .int .i64 (F.g : Int)] 121 (0, 0)))
  rcases HPe.out.1 with rfl | rfl
  · rcases Decidable.em (M ≤ 1500) with hm | hm
    · have hm' : decide ((1500 : Int) < M) = false := by simp; omega
      have HR := Lib.hid (payYes (HP.out.symm.trans (HPe.out.2.trans (if_pos ⟨rfl, hm⟩))))
      clear hm
      go_enter Tryz.func90, Tryz.ntmps90
      go_wp2_with fail
      refine (HFI.out _).mono ?_
      rintro e w2 ⟨rfl, hb2⟩
      have HB2 := Lib.hid (bt0 HB0.out hb2 (Nat.le_refl _))
      have HX2 := Lib.hid (blkK hb2 HX.out)
      clear hb2
      obtain ⟨hcA, hfA⟩ := heap_cellR HX2.out
      have z2 := blkLt HX2.out
      go_wp2_with fail
      refine (HBL.out _).mono ?_
      rintro e w3 ⟨rfl, hb3⟩
      have HB3 := Lib.hid (bt0 HB2.out hb3 (Nat.le_refl _))
      have HX3 := Lib.hid (blkK hb3 HX2.out)
      clear hb3 hcA hfA
      obtain ⟨hcA, hfA⟩ := heap_cellR HX3.out
      have z3 := blkLt HX3.out
      go_wp2_with fail
      refine (HWD.out _).mono ?_
      rintro e w4 ⟨rfl, hb4⟩
      have HB4 := Lib.hid (bt0 HB3.out hb4 (Nat.le_refl _))
      clear hb4 hcA hfA
      go_wp2_with fail
      go_ret2
      exact ⟨by rw [HR.out.1, HR.out.2]; rfl, HB4.out⟩
    · have hm' : decide ((1500 : Int) < M) = true := by simp; omega
      have HR := Lib.hid (payNo (HP.out.symm.trans (HPe.out.2.trans (if_neg (by omega)))))
      clear hm
      go_enter Tryz.func90, Tryz.ntmps90
      go_wp2_with fail
      refine (HFI.out _).mono ?_
      rintro e w2 ⟨rfl, hb2⟩
      have HB2 := Lib.hid (bt0 HB0.out hb2 (Nat.le_refl _))
      have HX2 := Lib.hid (blkK hb2 HX.out)
      clear hb2
      obtain ⟨hcA, hfA⟩ := heap_cellR HX2.out
      have z2 := blkLt HX2.out
      go_wp2_with fail
      refine (HBL.out _).mono ?_
      rintro e w3 ⟨rfl, hb3⟩
      have HB3 := Lib.hid (bt0 HB2.out hb3 (Nat.le_refl _))
      have HX3 := Lib.hid (blkK hb3 HX2.out)
      clear hb3 hcA hfA
      obtain ⟨hcA, hfA⟩ := heap_cellR HX3.out
      have z3 := blkLt HX3.out
      go_wp2_with fail
      refine (HWD.out _).mono ?_
      rintro e w4 ⟨rfl, hb4⟩
      have HB4 := Lib.hid (bt0 HB3.out hb4 (Nat.le_refl _))
      clear hb4 hcA hfA
      go_wp2_with fail
      go_ret2
      exact ⟨by rw [HR.out.1, HR.out.2]; rfl, HB4.out⟩
  · have HR := Lib.hid (payNo (HP.out.symm.trans (HPe.out.2.trans (if_neg (by omega)))))
    go_enter Tryz.func90, Tryz.ntmps90
    go_wp2_with fail
    refine (HFI.out _).mono ?_
    rintro e w2 ⟨rfl, hb2⟩
    have HB2 := Lib.hid (bt0 HB0.out hb2 (Nat.le_refl _))
    have HX2 := Lib.hid (blkK hb2 HX.out)
    clear hb2
    obtain ⟨hcA, hfA⟩ := heap_cellR HX2.out
    have z2 := blkLt HX2.out
    go_wp2_with fail
    refine (HBL.out _).mono ?_
    rintro e w3 ⟨rfl, hb3⟩
    have HB3 := Lib.hid (bt0 HB2.out hb3 (Nat.le_refl _))
    have HX3 := Lib.hid (blkK hb3 HX2.out)
    clear hb3 hcA hfA
    obtain ⟨hcA, hfA⟩ := heap_cellR HX3.out
    have z3 := blkLt HX3.out
    go_wp2_with fail
    refine (HWD.out _).mono ?_
    rintro e w4 ⟨rfl, hb4⟩
    have HB4 := Lib.hid (bt0 HB3.out hb4 (Nat.le_refl _))
    clear hb4 hcA hfA
    go_wp2_with fail
    go_ret2
    exact ⟨by rw [HR.out.1, HR.out.2]; rfl, HB4.out⟩

end Go.Proofs.YtlcglclojlffgaaGreatDoor
namespace Go.Proofs.YtlcglclojlffgaaGreatDoor
open Go.RowKit

theorem layA_shape (f : Fam) (x lev : Int) : ∃ q0 q1 q2 d c n : Int, layA f x lev = .agg #[.int .i64 q0, .int .i64 q1, .int .i64 q2, .int .i64 d, .int .i64 c, .int .i64 n] ∧ (layC f x lev = 0 → d = (f.lay x lev).data) := by
  unfold layA
  by_cases h : layC f x lev = 0
  · rw [if_pos h]; exact ⟨_, _, _, _, _, _, rfl, fun _ => rfl⟩
  · rw [if_neg h]; exact ⟨_, _, _, _, _, _, rfl, fun h' => absurd h' h⟩
theorem layC_room {f : Fam} {x lev : Int} (hf : f.ok = true) (hx : hasI f.sizes x = true) (hl : inB lev 0 ((f.levels.length : Int) - 1) = true) : layC f x lev = if (f.lay x lev).ok ((2 ^ f.fk.toNat : Nat) : Int) = true then 0 else 3 := by
  rw [layC, if_pos hf, if_pos ⟨hx, hl⟩]
set_option maxRecDepth 100000 in
set_option maxHeartbeats 8000000 in
theorem spSmallestSize_any (nm : ByteArray) (kd p k g : Int) (b1 : Nat) (szs : List Int) (c1 : Nat) (cl : Int) (b2 : Nat) (lvs : List Int) (c2 : Nat) (lev : Int) (s : ByteArray) (w : World) (h : Fam.ok ⟨nm, kd, p, k, g, szs, cl, lvs⟩ = true) (h1 : IntsAt w (some ⟨b1, 0, none⟩) szs) (h2 : IntsAt w (some ⟨b2, 0, none⟩) lvs) (ln : nm.size ≤ 1048576) (hs : s.size ≤ 1048576) :
    Calls Tryz.prog 74 #[(.agg #[.string nm, .int .i64 kd, .int .i64 p, .int .i64 k, .int .i64 g, .slice (some ⟨b1, 0, none⟩) szs.length c1, .int .i64 cl, .slice (some ⟨b2, 0, none⟩) lvs.length c2]), .int .i64 lev, .string s] w (RetSm w (smS ⟨nm, kd, p, k, g, szs, cl, lvs⟩ lev s.data.toList)) := by
  obtain ⟨hfb, hl4, -, hs8, -⟩ := fam_ok h
  obtain ⟨fam, hfam⟩ : ∃ f, f = Fam.mk nm kd p k g szs cl lvs := ⟨_, rfl⟩
  have HFM := Lib.hid hfam
  have HF := Lib.hid (fv_of hfb)
  have HFv := Lib.hid (HF.out.v)
  have HIF := Lib.hid (fun w (h1 : IntsAt w (some ⟨b1, 0, none⟩) szs) (h2 : IntsAt w (some ⟨b2, 0, none⟩) lvs) => spFamily_any nm kd p k g (some ⟨b1, 0, none⟩) szs c1 cl (some ⟨b2, 0, none⟩) lvs c2 w h1 h2 (by omega) (by omega) ln)
  have HPS := Lib.hid (fun w => spPayloadSize_any HF.out s w hs)
  rw [← HFv.out] at HPS
  have HLY := Lib.hid (fun n w (h1 : IntsAt w (some ⟨b1, 0, none⟩) szs) (h2 : IntsAt w (some ⟨b2, 0, none⟩) lvs) => spLayoutOf_any nm kd p k g (some ⟨b1, 0, none⟩) szs c1 cl (some ⟨b2, 0, none⟩) lvs c2 n lev w h1 h2 (by omega) (by omega) ln)
  rw [← hfam] at HIF HLY h ⊢
  have hk : (bF k.toNat g.toNat).k = fam.fk.toNat := by rw [hfam]; rfl
  rw [hk] at HPS
  have H1 := Lib.hid h1
  have H2 := Lib.hid h2
  have HOK := Lib.hid h
  have hsz : fam.sizes = szs := by rw [hfam]
  have hlv : fam.levels = lvs := by rw [hfam]
  have HS := Lib.hid hsz
  have HLVe := Lib.hid hlv
  obtain ⟨S, hS⟩ : ∃ S, S = s.data.toList := ⟨_, rfl⟩
  have hSl : S.length = s.size := by rw [hS]; rfl
  rw [← hS] at HPS ⊢
  obtain ⟨O, hO⟩ : ∃ O, O = smS fam lev S := ⟨_, rfl⟩
  have HO := Lib.hid hO
  rw [← hO]
  have HN1 := Lib.hid (fun hh => hO.trans (smS_no1 (f := fam) (lev := lev) (S := S) hh))
  have HN2 := Lib.hid (fun hh => hO.trans (smS_no2 (f := fam) (lev := lev) (S := S) hh))
  have HGO := Lib.hid (fun h1 need hh => hO.trans (smS_go (f := fam) (lev := lev) (S := S) h1 (need := need) hh))
  rw [hlv] at HN1 HGO
  rw [hsz] at HGO
  have HP4 := Lib.hid (show ¬ S.length ≤ 400 → payS fam.fk.toNat S = none from fun hh => by rw [payS, if_neg (by omega)])
  have HB0 := Lib.hid (ba1 w (.cells #[.string nm, .int .i64 kd, .int .i64 p, .int .i64 k, .int .i64 g, .slice (some ⟨b1, 0, none⟩) szs.length c1, .int .i64 cl, .slice (some ⟨b2, 0, none⟩) lvs.length c2] 123 (0, 0)))
  have K0 := Lib.hid (push_at w (.cells #[.string nm, .int .i64 kd, .int .i64 p, .int .i64 k, .int .i64 g, .slice (some ⟨b1, 0, none⟩) szs.length c1, .int .i64 cl, .slice (some ⟨b2, 0, none⟩) lvs.length c2] 123 (0, 0)))
  have HIN := Lib.hid (fun w => spIn_below (n := lev) (lo := 0) (hi := (lvs.length : Int) - 1) (w := w) rfl)
  clear h h1 h2 hfb hS hO hfam hk hsz hlv HFv
  go_enter Tryz.func74, Tryz.ntmps74
  go_wp2_with fail
  refine (HIF.out _ (H1.out.below HB0.out) (H2.out.below HB0.out)).mono ?_
  rw [HOK.out]
  rintro e w1 ⟨rfl, hb1⟩
  have K1 := Lib.hid (blkK hb1 K0.out)
  have HB1 := Lib.hid (bt0 HB0.out hb1 (Nat.le_refl _))
  clear hb1
  obtain ⟨hcA, hfA⟩ := heap_cellR K1.out
  have z1 := blkLt K1.out
  go_wp2_with fail
  refine (HIN.out _).mono ?_
  rintro e w2 ⟨rfl, hb2⟩
  have K2 := Lib.hid (blkK hb2 K1.out)
  have HB2 := Lib.hid (bt0 HB1.out hb2 (Nat.le_refl _))
  clear hb2 hcA hfA
  obtain ⟨hcA, hfA⟩ := heap_cellR K2.out
  have z2 := blkLt K2.out
  rcases Bool.eq_false_or_eq_true (inB lev 0 ((lvs.length : Int) - 1)) with hv | hv
  rotate_left
  · have HD := Lib.hid (HN1.out hv)
    go_wp2_with fail
    go_ret2
    exact ⟨HB2.out, .inr ⟨HD.out, 2, by decide, rfl⟩⟩
  have HV := Lib.hid hv
  by_cases h400 : s.size ≤ 400
  rotate_left
  · have HD := Lib.hid (HN2.out (HP4.out (by omega)))
    have hd : (400 : Int) < (s.size : Int) := by omega
    go_wp2_with fail
    go_ret2
    exact ⟨HB2.out, .inr ⟨HD.out, 3, by decide, rfl⟩⟩
  have hd : ¬ (400 : Int) < (s.size : Int) := by omega
  go_wp2_with fail
  refine (HPS.out _).mono ?_
  rintro e w3 ⟨rfl, hb3⟩
  have K3 := Lib.hid (blkK hb3 K2.out)
  have HB3 := Lib.hid (bt0 HB2.out hb3 (Nat.le_refl _))
  clear hb3 hcA hfA hv
  obtain ⟨hcA, hfA⟩ := heap_cellR K3.out
  have z3 := blkLt K3.out
  obtain ⟨P, hP⟩ : ∃ P, P = payS fam.fk.toNat S := ⟨_, rfl⟩
  rcases P with _ | need
  · have HD := Lib.hid (HN2.out hP.symm)
    obtain ⟨e1, e2⟩ := payNo hP.symm
    rw [e1, e2]
    clear hP e1 e2
    go_wp2_with fail
    go_loopw [10] (fun i wr => i = .int .i64 0 ∧ wr = w3) (fun _ _ => 0)
    case atStart => exact ⟨rfl, rfl⟩
    case round =>
      obtain ⟨rfl, rfl⟩ := hrel
      have hlt : (0 : Int) < (szs.length : Int) := by omega
      go_wp2_with fail
      go_ret2
      exact ⟨HB3.out, .inr ⟨HD.out, 4, by decide, rfl⟩⟩
  obtain ⟨e1, e2⟩ := payYes hP.symm
  rw [e1, e2]
  have HD := Lib.hid (HGO.out HV.out need hP.symm)
  clear hP e1 e2
  go_wp2_with fail
  go_loopw [10] (fun i wr => ∃ j : Nat, j ≤ szs.length ∧ i = .int .i64 j ∧ (szs.take j).find? (roomB fam lev need) = none ∧ Below w3.heap.size w3 wr) (fun i _ => szs.length - (intOf i).toNat)
  case atStart => exact ⟨0, Nat.zero_le _, rfl, rfl, Below.refl _ _⟩
  case round =>
    obtain ⟨j, hj, rfl, hnone, hbr⟩ := hrel
    obtain ⟨ws, rfl⟩ : ∃ ws : World, ws = wr := ⟨_, rfl⟩
    have HNO := Lib.hid hnone
    have HBR := Lib.hid hbr
    have KR := Lib.hid (blkK hbr K3.out)
    clear hnone hbr hcA hfA
    obtain ⟨hcA, hfA⟩ := heap_cellR KR.out
    have hltR := blkLt KR.out
    by_cases hlt : j < szs.length
    · have hji : (j : Int) < (szs.length : Int) := by omega
      have HX1 := Lib.hid (H1.out.below (HB3.out.trans (HBR.out.mono HB3.out.size)))
      have HX2 := Lib.hid (H2.out.below (HB3.out.trans (HBR.out.mono HB3.out.size)))
      obtain ⟨b1', o1', x, hb1', hxk, hb1, hcx⟩ := HX1.out.at hlt
      cases hb1'
      have HXK := Lib.hid hxk
      have HHI := Lib.hid (hasI_yes hxk)
      have HCX := Lib.hid hcx
      obtain ⟨q0, q1, q2, d, cc, nn, hla, hld⟩ := layA_shape fam x lev
      have HLA := Lib.hid hla
      have HLD := Lib.hid hld
      have HLC := Lib.hid (layC_room (f := fam) (x := x) (lev := lev) HOK.out (by rw [HS.out]; exact HHI.out) (by rw [HLVe.out]; exact HV.out))
      obtain ⟨LC, hLC⟩ : ∃ LC, LC = layC fam x lev := ⟨_, rfl⟩
      have HLYx := Lib.hid (HLY.out x)
      rw [hla, ← hLC] at HLYx
      rw [← hLC] at HLD HLC
      clear hxk hcx hla hld hLC
      go_wp2_with fail
      refine wp_region_rsF (Keep := KB) 10 [45, 46, 47, 48, 49, 50, 51, 52, 44, 53, 54, 11] (fun us => _)
        [spE (.agg #[.string nm, .int .i64 kd, .int .i64 p, .int .i64 k, .int .i64 g, .slice (some ⟨b1, 0, none⟩) szs.length c1, .int .i64 cl, .slice (some ⟨b2, 0, none⟩) lvs.length c2]), spE (.pointer (some ⟨w.heap.size, 5, none⟩)), spE (.slice (some ⟨b1, 0, none⟩) szs.length c1), spE (.int .i64 (j : Int)), spE (.pointer (some ⟨b1, j, none⟩)), spE (.int .i64 x), spE (.int .i64 lev),
         spE (.tuple #[.agg #[.int .i64 q0, .int .i64 q1, .int .i64 q2, .int .i64 d, .int .i64 cc, .int .i64 nn], .int .i64 LC]), spE (.tuple #[.agg #[.int .i64 q0, .int .i64 q1, .int .i64 q2, .int .i64 d, .int .i64 cc, .int .i64 nn], .int .i64 LC]), spE (.agg #[.int .i64 q0, .int .i64 q1, .int .i64 q2, .int .i64 d, .int .i64 cc, .int .i64 nn]), spE (.int .i64 LC),
         spBox ws.heap.size #[.int .i64 0, .int .i64 0, .int .i64 0, .int .i64 0, .int .i64 0, .int .i64 0] 146]
        (StX ws) _ _ 146 _ _ 54 (by kernel_rfl) (by kernel_rfl) (fun us => by simp [over, List.mapIdx_cons]; exact rfl) (stX0 _) kbr rfl rfl rfl rfl rfl rfl rfl (by kernel_rfl) (by kernel_rfl) (fun us v => by exact ⟨rfl, rfl⟩) ?_ ?_ ?_ ?_
      · refine ⟨?_, ?_, ?_, ?_, ?_, ?_, ?_, ?_, ?_, ?_, ?_, ?_, trivial⟩
        all_goals (intro us wx hst hd; rw [if_pos (by kernel_rfl)]; dsimp only)
        · clear hd
          obtain ⟨hcX, hfX⟩ := heap_cellR (blkK hst KR.out)
          have hlX := blkLt (blkK hst KR.out)
          go_simp
          exact kb_same hst rfl
        · clear hd
          go_simp
          exact kb_same hst rfl
        · have d46 : us 46 = .pointer (some ⟨w.heap.size, 5, none⟩) := hd ⟨1, .data⟩ (by simp) rfl
          clear hd
          obtain ⟨hcX, hfX⟩ := heap_cellR (blkK hst KR.out)
          have hlX := blkLt (blkK hst KR.out)
          go_simp
          exact kb_same hst rfl
        · clear hd
          go_simp
          exact kb_same hst rfl
        · have d47 : us 47 = .slice (some ⟨b1, 0, none⟩) szs.length c1 := hd ⟨2, .data⟩ (by simp) rfl
          have d48 : us 48 = .int .i64 (j : Int) := hd ⟨3, .data⟩ (by simp) rfl
          clear hd
          go_simp
          exact kb_same hst rfl
        · have d49 : us 49 = .pointer (some ⟨b1, j, none⟩) := hd ⟨4, .data⟩ (by simp) rfl
          clear hd
          have h0 := (hst.cell (p := ⟨b1, 0 + j, none⟩) hb1).trans HCX.out
          rw [Nat.zero_add] at h0
          go_simp
          exact kb_same hst rfl
        · clear hd
          go_simp
          exact kb_same hst rfl
        · have d45 : us 45 = .agg #[.string nm, .int .i64 kd, .int .i64 p, .int .i64 k, .int .i64 g, .slice (some ⟨b1, 0, none⟩) szs.length c1, .int .i64 cl, .slice (some ⟨b2, 0, none⟩) lvs.length c2] := hd ⟨0, .data⟩ (by simp) rfl
          have d50 : us 50 = .int .i64 x := hd ⟨5, .data⟩ (by simp) rfl
          have d51 : us 51 = .int .i64 lev := hd ⟨6, .data⟩ (by simp) rfl
          clear hd
          have h9 := HLYx.out wx (HX1.out.below hst) (HX2.out.below hst)
          go_simp
          exact h9.mono fun e w' ⟨he, hb⟩ => ⟨_, he, kb_below hst hb rfl⟩
        · have d52 : us 52 = .tuple #[.agg #[.int .i64 q0, .int .i64 q1, .int .i64 q2, .int .i64 d, .int .i64 cc, .int .i64 nn], .int .i64 LC] := hd ⟨7, .data⟩ (by simp) rfl
          clear hd
          go_simp
          exact kb_same hst rfl
        · have d44 : us 44 = .tuple #[.agg #[.int .i64 q0, .int .i64 q1, .int .i64 q2, .int .i64 d, .int .i64 cc, .int .i64 nn], .int .i64 LC] := hd ⟨8, .data⟩ (by simp) rfl
          clear hd
          go_simp
          exact kb_same hst rfl
        · have d44 : us 44 = .tuple #[.agg #[.int .i64 q0, .int .i64 q1, .int .i64 q2, .int .i64 d, .int .i64 cc, .int .i64 nn], .int .i64 LC] := hd ⟨8, .data⟩ (by simp) rfl
          clear hd
          go_simp
          exact kb_same hst rfl
        · clear hd
          go_simp
          exact kb_new hst (Nat.le_refl _)
      · intro us wx hst hd
        have dv : us 53 = .agg #[.int .i64 q0, .int .i64 q1, .int .i64 q2, .int .i64 d, .int .i64 cc, .int .i64 nn] := hd 9 (by simp) (by decide)
        have db : BoxK ws.heap.size #[.int .i64 0, .int .i64 0, .int .i64 0, .int .i64 0, .int .i64 0, .int .i64 0] 146 (us 11) wx := hd 11 (by simp) (by decide)
        obtain ⟨bS, eb, hbB, hgS⟩ := db
        exact ⟨bS, _, _, _, eb, dv, hgS, by kernel_rfl, rfl, by kernel_rfl⟩
      · intro us wx hst hd
        have d44 : us 44 = .tuple #[.agg #[.int .i64 q0, .int .i64 q1, .int .i64 q2, .int .i64 d, .int .i64 cc, .int .i64 nn], .int .i64 LC] := hd 8 (by simp) (by decide)
        clear hd
        refine ⟨.int .i64 LC, fun w' => ?_, (show upd us (some 54) (.int .i64 LC) 54 = .int .i64 LC from rfl)⟩
        go_simp
        try rfl
      · intro us wx hst hd
        have dv : us 53 = .agg #[.int .i64 q0, .int .i64 q1, .int .i64 q2, .int .i64 d, .int .i64 cc, .int .i64 nn] := hd 9 (by simp)
        have dc : us 54 = .int .i64 LC := hd 10 (by simp)
        have db : BoxK ws.heap.size #[.int .i64 0, .int .i64 0, .int .i64 0, .int .i64 0, .int .i64 0, .int .i64 0] 146 (us 11) wx := hd 11 (by simp)
        clear hd
        obtain ⟨bS, eSb, hbSB, hgS⟩ := db
        simp only [List.drop, List.length]
        rw [dv, dc, eSb]
        obtain ⟨hcS, hfS⟩ := heap_cellR hgS
        have hbS := blkLt hgS
        have HSTX := Lib.hid hst
        have HBX := Lib.hid (bt0 (bt0 HB3.out HBR.out (Nat.le_refl _)) hst (Nat.le_refl _))
        have KX := Lib.hid (blkK hst KR.out)
        obtain ⟨hcX, hfX⟩ := heap_cellR KX.out
        have hlX := blkLt KX.out
        have hne1 : bS ≠ w.heap.size := by omega
        have hne2 : w.heap.size ≠ bS := by omega
        have hcx := (hst.cell (p := ⟨b1, 0 + j, none⟩) hb1).trans HCX.out
        rw [Nat.zero_add] at hcx
        clear dv dc eSb hgS hst hcA hfA
        rcases Bool.eq_false_or_eq_true ((fam.lay x lev).ok ((2 ^ fam.fk.toNat : Nat) : Int)) with ho | ho
        · obtain rfl : LC = 0 := by rw [HLC.out, if_pos ho]
          have hd := HLD.out rfl
          by_cases hle : need ≤ d
          · have HR := Lib.hid (HD.out.trans (find_hit HXK.out HNO.out (show roomB fam lev need x = true by rw [roomB, ho, ← hd, decide_eq_true hle]; rfl)))
            have hcx2 : b1 ≠ bS := by omega
            clear ho hd
            go_wp2_with fail
            go_ret2
            refine ⟨?_, .inl ⟨x, HR.out, rfl⟩⟩
            have hz := HBX.out.size
            iterate 6 (refine Below.setCell ?_ (by dsimp only; omega) _)
            exact HBX.out
          · have HR := Lib.hid (find_miss HXK.out HNO.out (show roomB fam lev need x = false by rw [roomB, ho, ← hd, decide_eq_false hle]; rfl))
            clear ho hd
            go_wp2_with fail
            refine ⟨⟨j + 1, by omega, by go_num, HR.out, ?_⟩, by simp [intOf]; omega⟩
            have hz := HBR.out.size
            iterate 6 (refine Below.setCell ?_ (by dsimp only; omega) _)
            exact bt0 HBR.out HSTX.out (Nat.le_refl _)
        · obtain rfl : LC = 3 := by rw [HLC.out, if_neg (by rw [ho]; decide)]
          have HR := Lib.hid (find_miss HXK.out HNO.out (show roomB fam lev need x = false by rw [roomB, ho, Bool.false_and]))
          clear ho
          go_wp2_with fail
          refine ⟨⟨j + 1, by omega, by go_num, HR.out, ?_⟩, by simp [intOf]; omega⟩
          have hz := HBR.out.size
          iterate 6 (refine Below.setCell ?_ (by dsimp only; omega) _)
          exact bt0 HBR.out HSTX.out (Nat.le_refl _)
    · have hji : ¬ (j : Int) < (szs.length : Int) := by omega
      have HR := Lib.hid (show O = none by have h := HNO.out; rw [List.take_of_length_le (by omega)] at h; rw [HD.out, h])
      go_wp2_with fail
      go_ret2
      exact ⟨bt0 HB3.out HBR.out (Nat.le_refl _), .inr ⟨HR.out, 4, by decide, rfl⟩⟩

end Go.Proofs.YtlcglclojlffgaaGreatDoor
namespace Go.Proofs.YtlcglclojlffgaaGreatDoor
open Go.RowKit

/-- a damage lies at an address -/
def DmAt (w : World) (b o : Nat) (d : Dm) : Prop := w.cell? ⟨b, o, none⟩ = some (.int .i64 d.k) ∧ w.cell? ⟨b, o + 1, none⟩ = some (.int .i64 d.r) ∧ w.cell? ⟨b, o + 2, none⟩ = some (.int .i64 d.c) ∧ w.cell? ⟨b, o + 3, none⟩ = some (.int .i64 d.t) ∧ w.cell? ⟨b, o + 4, none⟩ = some (.int .i64 d.w) ∧ w.cell? ⟨b, o + 5, none⟩ = some (.int .i64 d.g)
/-- the damages ds lie at a -/
def DmsAt (w : World) (a : Option Addr) (ds : List Dm) : Prop := ∀ i (h : i < ds.length), ∃ b o, a = some ⟨b, o, none⟩ ∧ DmAt w b (o + i * 6) ds[i]
theorem DmAt.below {w w' : World} {b o : Nat} {d : Dm} (h : DmAt w b o d) (hb : Below w.heap.size w w') : DmAt w' b o d := by
  obtain ⟨h0, h1, h2, h3, h4, h5⟩ := h
  have hl := lt_of_cell h0
  have hc := (bcell hb).1
  exact ⟨(hc b _ hl).trans h0, (hc b _ hl).trans h1, (hc b _ hl).trans h2, (hc b _ hl).trans h3, (hc b _ hl).trans h4, (hc b _ hl).trans h5⟩
theorem DmsAt.below {w w' : World} {a : Option Addr} {ds : List Dm} (H : DmsAt w a ds) (hb : Below w.heap.size w w') : DmsAt w' a ds := fun i h => by
  obtain ⟨b, o, ha, hc⟩ := H i h
  exact ⟨b, o, ha, hc.below hb⟩
theorem DmsAt.at {w : World} {a : Option Addr} {ds : List Dm} (H : DmsAt w a ds) {i : Nat} (hi : i < ds.length) : ∃ b o d, a = some ⟨b, o, none⟩ ∧ ds[i]? = some d ∧ b < w.heap.size ∧ DmAt w b (o + i * 6) d := by
  obtain ⟨b, o, ha, hc⟩ := H i hi
  exact ⟨b, o, ds[i], ha, List.getElem?_eq_getElem hi, lt_of_cell hc.1, hc⟩

end Go.Proofs.YtlcglclojlffgaaGreatDoor
