import Derived.Test.YtlcglclojlffgaaGreatM0
import Derived.Test.YtlcglclojlffgaaGreatM1
import Derived.Maps.AppendAt
namespace Go.Proofs.YtlcglclojlffgaaGreat
open Go.RowKit

theorem bitsC_at (v w i : Nat) (h : i < w) : (bitsC v w)[i]? = some ((v >>> (w - 1 - i) % 2 : Nat) : Int) := by
  unfold bitsC
  rw [List.getElem?_map, List.getElem?_range h]
  rfl
/-- a row of the call's own goes on: nothing else has turned -/
structure MoreI (base : Nat) (w : World) (v : Value) (w' : World) (v' : Value) (l' : List Int) : Prop where
  own : OwnI w' base v' l'
  below : Below base w w'
  ob : ∀ b, v'.ownBlock = some b → v.ownBlock = some b ∨ w.heap.size ≤ b
  kept : ∀ b, b < w.heap.size → v.ownBlock ≠ some b → w'.heap[b]? = w.heap[b]?
theorem MoreI.refl {base : Nat} {w : World} {v : Value} {l : List Int} (h : OwnI w base v l) : MoreI base w v w v l := ⟨h, Below.refl _ _, fun _ e => Or.inl e, fun _ _ _ => rfl⟩
theorem MoreI.trans {base : Nat} {w w1 w2 : World} {v v1 v2 : Value} {l1 l2 : List Int} (h : MoreI base w v w1 v1 l1) (k : MoreI base w1 v1 w2 v2 l2) : MoreI base w v w2 v2 l2 := by
  have hs := h.below.size
  refine ⟨k.own, h.below.trans k.below, fun b e => ?_, fun b hb hne => ?_⟩
  · rcases k.ob b e with h1 | h1
    · exact h.ob b h1
    · exact Or.inr (by omega)
  · have h1 : v1.ownBlock ≠ some b := fun e => by
      rcases h.ob b e with h2 | h2
      · exact hne h2
      · omega
    exact (k.kept b (by omega) h1).trans (h.kept b hb hne)
theorem MoreI.grown {base : Nat} {w w1 w2 : World} {v v1 : Value} {l1 : List Int} (h : MoreI base w v w1 v1 l1) (hb : Below w1.heap.size w1 w2) (hB : base ≤ w.heap.size) : MoreI base w v w2 v1 l1 :=
  ⟨h.own.grown hb, bt0 h.below hb hB, h.ob, fun b hlt hne => (hb.block b (Nat.lt_of_lt_of_le hlt h.below.size)).trans (h.kept b hlt hne)⟩
/-- from a world before: what has been made since is nobody's -/
theorem MoreI.since {base : Nat} {w0 w w1 : World} {v v1 : Value} {l1 : List Int} (h : MoreI base w v w1 v1 l1) (hb : Below w0.heap.size w0 w) (hB : base ≤ w0.heap.size) : MoreI base w0 v w1 v1 l1 :=
  ⟨h.own, bt0 (Below.refl _ _) hb hB |>.trans h.below, fun b e => (h.ob b e).imp id (fun h1 => Nat.le_trans hb.size h1), fun b hlt hne => (h.kept b (Nat.lt_of_lt_of_le hlt hb.size) hne).trans (hb.block b hlt)⟩
/-- append of one number -/
theorem wpList_append_i1a {ops : Array Oper} {rest : List Oper} {o : Oper} {a : Act} {Q : Exit → Act → World → Prop} {W : World} (hgd : o.guard = none) (s x : Operand) (T : TypeId) (hT : Tryz.prog.underlying T = some (.slice 2))
    (ho : o.op = .call { callee := .builtin .append, args := #[s, x], argTypes := #[T, T] })
    (base : Nat) (v : Value) (l : List Int) (z : Int) (hs : a.eval s = v) (hown : OwnI W base v l) (g : Nat) (hx : a.eval x = .slice (some ⟨g, 0, none⟩) 1 1)
    (hg : W.heap[g]? = some (.cells #[.int .i64 z] 2 (0, 0))) (hl : l.length ≤ 1000000000) (hb : base ≤ W.heap.size)
    (h : ∀ a' c' l' w', l' = l ++ [z] → MoreI base W v w' (.slice a' l'.length c') l' → wpList Tryz.prog ops Q rest (a.put o.dst (.slice a' l'.length c')) w') : wpList Tryz.prog ops Q (o :: rest) a W := by
  obtain ⟨i0, hi, y0, y1, y2⟩ := info_parts infoI
  refine wpList_append_own_at _ hgd s x T ho base 2 i0 _ 1 8 hT hi y0 y1 y2 rfl (by decide) v l.length (l.map (Value.int .i64)) hs hown ⟨g, 0, none⟩ 1 1 [.int .i64 z] hx rfl ?_ ?_ (by unfold maxLen; omega) (by omega) hb
    (fun v' w' h1 h2 _ h4 => ?_)
  · intro j u hu
    rw [Addr.add_lit, Nat.zero_add, (heap_cellR hg).1, ← hu]
    simp
  · intro u hu
    simp only [List.mem_singleton] at hu
    subst hu; rfl
  · have ho : OwnI w' base v' (l ++ [z]) := by
      unfold OwnI
      rw [List.length_append, List.map_append]
      exact h1
    obtain ⟨a', c', e, _⟩ := ho.read
    rw [e] at ho h4 ⊢
    refine h a' c' _ w' rfl ⟨ho, below_of_grownBy h2 hb (fun k hk => hown.lo k hk), fun b e => ?_, fun b hlt hne => h2.block b hlt (fun e => hne e.symm)⟩
    rcases h4 with h5 | h5
    · exact Or.inl (h5.symm.trans e)
    · rw [h5] at e; exact Or.inr (Nat.le_of_eq (Option.some.inj e))
/-- numbers of a row that was the call's own before are handed back, more of them -/
def RetMore (base : Nat) (w : World) (v : Value) (l : List Int) (e : Ending) (w' : World) : Prop := ∃ a c l', l' = l ∧ e = .returned (.slice a l'.length c) ∧ MoreI base w v w' (.slice a l'.length c) l'
set_option maxRecDepth 100000 in
set_option maxHeartbeats 2000000 in
theorem appendNumber_any (base : Nat) (a : Option Addr) (c : Nat) (l : List Int) (v k : Nat) (w : World) (ho : OwnI w base (.slice a l.length c) l) (hb : base ≤ w.heap.size) (hl : l.length ≤ 100000) (hv : v < 1000000000) (hk : k ≤ 62) :
    Calls Tryz.prog 110 #[.slice a l.length c, .int .i64 (v : Int), .int .i64 (k : Int)] w (RetMore base w (.slice a l.length c) (l ++ bitsC v k)) := by
  have HO := Lib.hid (MoreI.refl ho)
  clear ho
  go_enter Tryz.func110, Tryz.ntmps110
  go_wp2_with fail
  go_loopw [0, 7] (fun s i wr => ∃ (j : Nat) (a' : Option Addr) (c' : Nat) (m : List Int), j ≤ k ∧ i = .int .i64 ((k : Int) - 1 - j) ∧ s = .slice a' m.length c' ∧ m = l ++ (bitsC v k).take j ∧ MoreI base w (.slice a l.length c) wr (.slice a' m.length c') m) (fun _ i _ => (intOf i + 1).toNat)
  case atStart => exact ⟨0, a, c, l, Nat.zero_le _, by simp, rfl, by simp, HO.out⟩
  case round =>
    obtain ⟨j, a', c', m, hj, rfl, rfl, hm, ho⟩ := hrel
    have HM := Lib.hid hm
    have HOr := Lib.hid ho
    have hml : m.length ≤ 200000 := by rw [hm, List.length_append, List.length_take, bitsC_len]; omega
    have hbr : base ≤ wr.heap.size := Nat.le_trans hb ho.below.size
    clear hm ho
    by_cases hlt : j < k
    · obtain ⟨q, hq⟩ : ∃ q : Nat, q = k - 1 - j := ⟨_, rfl⟩
      have hqi : (k : Int) - 1 - (j : Int) = (q : Int) := by omega
      rw [hqi]
      have HQ := Lib.hid (bitsC_at v k j hlt)
      rw [← hq] at HQ
      have hdec : decide ((0 : Int) ≤ (q : Int)) = true := by simp
      have hq64 : (q : Int) < 64 := by omega
      have hd0 : (v : Int) / 2 ^ q = ((v >>> q : Nat) : Int) := by rw [Nat.shiftRight_eq_div_pow]; push_cast; rfl
      have hd1 : v >>> q ≤ v := by rw [Nat.shiftRight_eq_div_pow]; exact Nat.div_le_self _ _
      obtain ⟨u, hu⟩ : ∃ u, u = v >>> q := ⟨_, rfl⟩
      rw [← hu] at hd0 hd1 HQ
      clear hu
      obtain ⟨z, hz⟩ : ∃ z : Int, z = ((u % 2 : Nat) : Int) := ⟨_, rfl⟩
      rw [← hz] at HQ
      have hb1 : bits .and .i64 ((v : Int) / 2 ^ q) 1 = z := by
        rw [hd0]
        clear hd0
        have h := andOne (u : Int) (by omega) (by omega)
        rw [h, hz]; omega
      have HS := Lib.hid (take_snoc' HQ.out)
      have HQI := Lib.hid hqi
      clear hq hqi hz hd0 hd1
      go_wp2_with (at_builtin; refine wpList_append_i1a (o := _) rfl (.tmp 14) (.tmp 19) 24 Tryz.underlying24 rfl base (.slice a' m.length c') m z rfl (HOr.out.own.grown (ba1 _ _)) wr.heap.size rfl (push_at _ _) (by omega) (by simp; omega) ?_; intro a8 c8 l8 w8 he8 hm8; have HE8 := Lib.hid he8; clear he8)
      have hqi := HQI.out
      refine ⟨⟨j + 1, a8, c8, l8, by omega, by congr 1; push_cast; omega, rfl, by rw [HE8.out, HM.out, HS.out, List.append_assoc], HOr.out.trans (hm8.since (ba1 _ _) hbr)⟩, by simp [intOf]; try omega⟩
    · have hdec : decide ((0 : Int) ≤ (k : Int) - 1 - (j : Int)) = false := by simp; omega
      obtain rfl : j = k := by omega
      go_wp2_with fail
      refine bodyPost_ret (v := .slice a' m.length c') (by simp [results, Tryz.results110, go_sem]) rfl ?_
      exact ⟨a', c', m, by rw [HM.out, List.take_of_length_le (by rw [bitsC_len]; omega)], rfl, HOr.out⟩

end Go.Proofs.YtlcglclojlffgaaGreat
