import Derived.Test.YtpilkgcghlfdmaaGreatDoorM1
import Derived.Lib.ConvBytes
import Derived.Test.YtpilkgcghlfdmaaGreatDoorM0
namespace Go.Proofs.YtpilkgcghlfdmaaGreatDoor
open Go.RowKit

/-! Rows of things that take k cells each. -/
structure Enc (α : Type) where
  enc : α → List Value
  k : Nat
  t : TypeId
  bytes : Nat
  len : ∀ x, (enc x).length = k
  one : ∀ x, ∀ u ∈ enc x, u.oneCell' = true
  pos : 0 < k
variable {α : Type} {E : Enc α}

/-- the slice v is the call's own and holds the things xs -/
def Enc.Own (E : Enc α) (w : World) (base : Nat) (v : Value) (xs : List α) : Prop := w.ownsRow base E.t E.k v xs.length (xs.flatMap E.enc)
/-- the things xs lie at a -/
def Enc.At (E : Enc α) (w : World) (a : Option Addr) (xs : List α) : Prop := ∀ i x, xs[i]? = some x → ∃ b o, a = some ⟨b, o, none⟩ ∧ ∀ j u, (E.enc x)[j]? = some u → w.cell? ⟨b, o + (i * E.k + j), none⟩ = some u
theorem Enc.At.below {w w' : World} {a : Option Addr} {xs : List α} (h : E.At w a xs) (hb : Below w.heap.size w w') : E.At w' a xs := fun i x hx => by
  obtain ⟨b, o, e, hc⟩ := h i x hx
  exact ⟨b, o, e, fun j u hu => by rw [hb.cell (p := ⟨b, _, none⟩) (lt_of_cell (hc j u hu))]; exact hc j u hu⟩
theorem Enc.At.nil {w : World} {a : Option Addr} : E.At w a [] := fun i x hx => by simp at hx
theorem Enc.flat (E : Enc α) : ∀ (xs : List α) (i : Nat) (x : α), xs[i]? = some x → ∀ j u, (E.enc x)[j]? = some u → (xs.flatMap E.enc)[i * E.k + j]? = some u
  | [], i, x, h, _, _, _ => by simp at h
  | y :: xs, 0, x, h, j, u, hu => by
    simp at h
    subst h
    rw [List.flatMap_cons, Nat.zero_mul, Nat.zero_add, List.getElem?_append_left (List.getElem?_eq_some_iff.1 hu).1, hu]
  | y :: xs, i + 1, x, h, j, u, hu => by
    have ih := E.flat xs i x (by simpa using h) j u hu
    have hl := E.len y
    have e : (i + 1) * E.k = i * E.k + E.k := Nat.succ_mul i E.k
    rw [List.flatMap_cons, List.getElem?_append_right (by omega), ← ih]
    congr 1
    omega
theorem Enc.flat_len (E : Enc α) : ∀ xs : List α, (xs.flatMap E.enc).length = xs.length * E.k
  | [] => by simp
  | x :: xs => by rw [List.flatMap_cons, List.length_append, E.flat_len xs, E.len, List.length_cons, Nat.succ_mul]; omega
theorem Enc.Own.at {w : World} {base : Nat} {a : Option Addr} {n c : Nat} {xs : List α} (h : E.Own w base (.slice a n c) xs) : E.At w a xs := by
  intro i x hx
  have hi : i < xs.length := (List.getElem?_eq_some_iff.1 hx).1
  rcases h.2 with ⟨h1, h0⟩ | ⟨g, cap, cur, h1, hb, hg, q1, q2, q3, q4⟩
  · omega
  · simp only [Value.slice.injEq] at h1
    obtain ⟨rfl, rfl, rfl⟩ := h1
    refine ⟨g, 0, rfl, fun j u hu => ?_⟩
    have hj : j < E.k := by rw [← E.len x]; exact (List.getElem?_eq_some_iff.1 hu).1
    have hlt : i * E.k + j < xs.length * E.k := by
      have := Nat.mul_le_mul_right E.k (show i + 1 ≤ xs.length from hi)
      rw [Nat.succ_mul] at this; omega
    rw [Nat.zero_add, World.ownsRow.cellAt h (i * E.k + j) hlt]
    exact E.flat xs i x hx j u hu
theorem Enc.Own.read {w : World} {base : Nat} {v : Value} {xs : List α} (h : E.Own w base v xs) : ∃ a c, v = .slice a xs.length c := by
  rcases h.2 with ⟨rfl, h0⟩ | ⟨g, cap, cur, rfl, _⟩
  · exact ⟨none, 0, by rw [h0]⟩
  · exact ⟨_, _, rfl⟩
theorem Enc.Own.lo {w : World} {base : Nat} {v : Value} {xs : List α} (h : E.Own w base v xs) : ∀ k, v.ownBlock = some k → base ≤ k := fun k hk => (World.ownsRow.lt h k hk).1
theorem Enc.Own.hi {w : World} {base : Nat} {v : Value} {xs : List α} (h : E.Own w base v xs) : ∀ k, v.ownBlock = some k → k < w.heap.size := fun k hk => (World.ownsRow.lt h k hk).2
theorem Enc.Own.other {w w' : World} {base : Nat} {v : Value} {xs : List α} {row : Option Nat} (h : E.Own w base v xs) (hg : w.grownBy w' row) (hne : ∀ k, v.ownBlock = some k → row ≠ some k) : E.Own w' base v xs :=
  h.kept hg (by
    cases hv : v.ownBlock with
    | none => exact Or.inl rfl
    | some k => exact Or.inr (fun e => hne k hv e.symm))
theorem Enc.Own.src {w w' : World} {base b : Nat} {v : Value} {xs : List α} (h : E.Own w base v xs) (hb : b < base) (hg : w.grownBy w' (some b)) : E.Own w' base v xs :=
  h.other hg (fun k hk e => by have := h.lo k hk; have := Option.some.inj e; omega)
theorem Enc.Own.grown {w w' : World} {base : Nat} {v : Value} {xs : List α} (h : E.Own w base v xs) (hb : Below w.heap.size w w') : E.Own w' base v xs :=
  h.other (row := none) ⟨hb.os, hb.tape, hb.output, hb.size, fun k hk _ => hb.block k hk⟩ (fun k _ e => by cases e)
theorem Enc.Own.weak {w : World} {base base' : Nat} {v : Value} {xs : List α} (h : E.Own w base v xs) (hb : base' ≤ base) : E.Own w base' v xs := by
  refine ⟨h.1, ?_⟩
  rcases h.2 with h2 | ⟨g, cap, cur, h1, hb', r⟩
  · exact Or.inl h2
  · exact Or.inr ⟨g, cap, cur, h1, by omega, r⟩
theorem Enc.Own.snoc {w : World} {base : Nat} {v : Value} {xs : List α} {x : α} (h : w.ownsRow base E.t E.k v (xs.length + 1) (xs.flatMap E.enc ++ E.enc x)) : E.Own w base v (xs ++ [x]) := by
  unfold Enc.Own
  rw [List.length_append, List.flatMap_append]
  simpa using h
theorem Enc.Own.nil (E : Enc α) (w : World) (base : Nat) : E.Own w base (.slice none 0 0) [] := World.ownsRow_nil _ _ _ _
theorem Enc.Own.new (E : Enc α) (w : World) : E.Own (w.alloc (.cells #[] E.t (0, 0))) w.heap.size (.slice (some ⟨w.heap.size, 0, none⟩) 0 0) [] :=
  World.ownsRow_lit (base := w.heap.size) (size := E.k) w #[] 0 (Nat.le_refl _) (by unfold maxLen; omega) (by simp)
/-- a block with one thing -/
theorem Enc.new_at (E : Enc α) {w : World} {g : Nat} {x : α} {C : Array Value} {t : TypeId} (h : w.heap[g]? = some (.cells C t (0, 0))) (hC : C.toList = E.enc x) : ∀ j u, (E.enc x)[j]? = some u → w.cell? ((⟨g, 0, none⟩ : Addr).add j) = some u := by
  intro j u hu
  rw [Addr.add_lit, Nat.zero_add, (heap_cellR h).1, ← hu, ← hC]
  simp

/-- append of one thing to things of the call's own -/
theorem wpList_append_e (E : Enc α) {P : Program} {ops : Array Oper} {rest : List Oper} {o : Oper} {a : Act} {Q : Exit → Act → World → Prop} {W : World} (hgd : o.guard = none) (s x : Operand) (T : TypeId)
    (ho : o.op = .call { callee := .builtin .append, args := #[s, x], argTypes := #[T, T] }) (hT : P.underlying T = some (.slice E.t)) (i0 : TypeInfo) (z : Value) (hi : P.info? E.t = some i0) (y0 : i0.zero = some z) (y1 : i0.size = E.k) (y2 : i0.bytes = E.bytes) (y3 : z.cells.size = E.k) (hby : E.bytes ≤ 4096)
    (base : Nat) (v : Value) (xs : List α) (y : α) (hs : a.eval s = v) (hown : E.Own W base v xs) (g : Nat) (C : Array Value) (hx : a.eval x = .slice (some ⟨g, 0, none⟩) 1 1)
    (hg : W.heap[g]? = some (.cells C E.t (0, 0))) (hC : C.toList = E.enc y) (hl : xs.length ≤ 1000000000) (hb : base ≤ W.heap.size)
    (h : ∀ a' c' xs' w', xs' = xs ++ [y] → E.Own w' base (.slice a' xs'.length c') xs' → W.grownBy w' v.ownBlock → Below base W w' → wpList P ops Q rest (a.put o.dst (.slice a' xs'.length c')) w') : wpList P ops Q (o :: rest) a W := by
  refine wpList_append_own _ hgd s x T ho base E.t i0 z E.k E.bytes hT hi y0 y1 y2 y3 E.pos v xs.length (xs.flatMap E.enc) hs hown ⟨g, 0, none⟩ 1 1 (E.enc y) hx (by rw [E.len, Nat.one_mul]) (E.new_at hg hC) (E.one y) (by unfold maxLen; omega) ?_ hb ?_
  · calc (xs.length + 1) * E.bytes ≤ (xs.length + 1) * 4096 := Nat.mul_le_mul_left _ hby
      _ ≤ 140737488355328 := by omega
  · intro v' w' h1 h2 _
    have h3 := Enc.Own.snoc h1
    obtain ⟨a', c', rfl⟩ := h3.read
    exact h a' c' _ w' rfl h3 h2 (below_of_grownBy h2 hb (fun k hk => hown.lo k hk))

end Go.Proofs.YtpilkgcghlfdmaaGreatDoor
namespace Go.Proofs.YtpilkgcghlfdmaaGreatDoor
open Go.RowKit

/-- rows of records -/
def rcE : Enc Rc where
  enc r := [.int .i64 r.k, .int .i64 r.n]
  k := 2
  t := 53
  bytes := 16
  len _ := rfl
  one := by
    intro r u hu
    simp only [List.mem_cons, List.not_mem_nil, or_false] at hu
    rcases hu with rfl | rfl <;> rfl
  pos := by decide
theorem infoRc : (Tryz.prog.info? 53).map (fun i => (i.zero, i.size, i.bytes)) = some (some (.agg #[.int .i64 0, .int .i64 0]), 2, 16) := by kernel_rfl
/-- a record in memory -/
theorem rc_at {w : World} {a : Option Addr} {l : List Rc} (h : rcE.At w a l) {i : Nat} {r : Rc} (hr : l[i]? = some r) : ∃ b o, a = some ⟨b, o, none⟩ ∧ b < w.heap.size ∧ w.cell? ⟨b, o + i * 2, none⟩ = some (.int .i64 r.k) ∧ w.cell? ⟨b, o + i * 2 + 1, none⟩ = some (.int .i64 r.n) := by
  obtain ⟨b, o, e, hc⟩ := h i r hr
  have h0 : w.cell? ⟨b, o + i * 2, none⟩ = some (.int .i64 r.k) := hc 0 _ rfl
  exact ⟨b, o, e, lt_of_cell h0, h0, hc 1 _ rfl⟩

/-- append of one record to records of the call's own -/
theorem wpList_append_rc {ops : Array Oper} {rest : List Oper} {o : Oper} {a : Act} {Q : Exit → Act → World → Prop} {W : World} (hgd : o.guard = none) (s x : Operand)
    (ho : o.op = .call { callee := .builtin .append, args := #[s, x], argTypes := #[41, 41] })
    (base : Nat) (v : Value) (xs : List Rc) (y : Rc) (hs : a.eval s = v) (hown : rcE.Own W base v xs) (g : Nat) (hx : a.eval x = .slice (some ⟨g, 0, none⟩) 1 1)
    (hg : W.heap[g]? = some (.cells #[.int .i64 y.k, .int .i64 y.n] 53 (0, 0))) (hl : xs.length ≤ 1000000000) (hb : base ≤ W.heap.size)
    (h : ∀ a' c' xs' w', xs' = xs ++ [y] → rcE.Own w' base (.slice a' xs'.length c') xs' → W.grownBy w' v.ownBlock → Below base W w' → wpList Tryz.prog ops Q rest (a.put o.dst (.slice a' xs'.length c')) w') : wpList Tryz.prog ops Q (o :: rest) a W := by
  obtain ⟨i0, hi, y0, y1, y2⟩ := info_parts infoRc
  exact wpList_append_e rcE hgd s x _ ho Tryz.underlying41 i0 _ hi y0 y1 y2 rfl (by decide) base v xs y hs hown g _ hx hg rfl hl hb h

end Go.Proofs.YtpilkgcghlfdmaaGreatDoor
namespace Go.Proofs.YtpilkgcghlfdmaaGreatDoor
open Go.RowKit

theorem recJ_some {f n : Nat} {s : Int} {rest : List UInt8} {r : Rc} (h : readJ n s rest = some r) : recJ (f + 1) n s rest = r :: recJ f (n + 1) (nextJ n s r) (rest.drop ((lineJ n s r).length + 1)) := by rw [recJ, h]
theorem recJ_none {f n : Nat} {s : Int} {rest : List UInt8} (h : readJ n s rest = none) : recJ f n s rest = [] := by
  cases f with
  | zero => rw [recJ]
  | succ f => rw [recJ, h]
theorem bysWorld_at (w : World) (s : ByteArray) : BysAt (Lib.bytesWorld w 5 s) (some ⟨w.heap.size, 0, none⟩) s.data.toList := by
  intro i x hx
  have hi : i < s.size := (List.getElem?_eq_some_iff.1 hx).1
  refine ⟨w.heap.size, 0, rfl, ?_⟩
  rw [Nat.zero_add, Lib.bytesWorld_cell w _ s i hi, List.getD_eq_getElem?_getD, hx]; rfl
theorem row_type {w : World} {base n size g : Nat} {t : TypeId} {v : Value} {xs : List Value} (h : w.ownsRow base t size v n xs) (hg : v.ownBlock = some g) : ∃ cur, w.heap[g]? = some (.cells cur t (0, 0)) := by
  rcases h.2 with ⟨rfl, _⟩ | ⟨g', cap, cur, rfl, _, hg', _⟩
  · simp [Value.ownBlock] at hg
  · simp [Value.ownBlock] at hg; subst hg; exact ⟨cur, hg'⟩
theorem rows_apart {w : World} {b1 n1 s1 b2 n2 s2 g : Nat} {t1 t2 : TypeId} {v1 v2 : Value} {xs ys : List Value} (h1 : w.ownsRow b1 t1 s1 v1 n1 xs) (h2 : w.ownsRow b2 t2 s2 v2 n2 ys) (ht : t1 ≠ t2) (hg : v1.ownBlock = some g) : v2.ownBlock ≠ some g := fun h => by
  obtain ⟨c1, e1⟩ := row_type h1 hg
  obtain ⟨c2, e2⟩ := row_type h2 h
  rw [e1] at e2
  simp only [Option.some.injEq, Obj.cells.injEq] at e2
  exact ht e2.2.1
theorem JSt.other {w w' : World} {J n : Nat} {s : Int} {l : List UInt8} {v : Value} {base : Nat} {xs : List Rc} (h : JSt w J n s l) (hx : rcE.Own w base v xs) (hJ : J < base) (hg : w.grownBy w' v.ownBlock) : JSt w' J n s l := by
  obtain ⟨a, c, h1, h2⟩ := h
  refine ⟨a, c, (hg.block J (blkLt h1) (fun e => by have := hx.lo _ e.symm; omega)).trans h1, h2.other hg (fun k hk e => ?_)⟩
  exact rows_apart h2 hx (by decide) hk e

/-- what stands at the beginning of a round of recovered -/
structure RcvSt (w : World) (s : List UInt8) (l : List Rc) (a : Option Addr) (c : Nat) (wr : World) : Prop where
  ok : ∀ r ∈ l, r.ok = true
  len : l.length ≤ 300
  got : recJ 300 0 0 s = l ++ recJ (300 - l.length) l.length (lastJ 0 0 l) (s.drop (textJ 0 0 l).length)
  fit : (textJ 0 0 l).length ≤ s.length
  own : rcE.Own wr (w.heap.size + 1) (.slice a l.length c) l
  jn : JSt wr w.heap.size l.length (lastJ 0 0 l) (textJ 0 0 l)
  bel : Below w.heap.size w wr
theorem RcvSt.next {w : World} {s : List UInt8} {l : List Rc} {a a' : Option Addr} {c c' : Nat} {wr wz : World} {r : Rc} (h : RcvSt w s l a c wr) (hl : l.length < 300) (hr : readJ l.length (lastJ 0 0 l) (s.drop (textJ 0 0 l).length) = some r)
    (own : rcE.Own wz (w.heap.size + 1) (.slice a' (l ++ [r]).length c') (l ++ [r])) (jn : JSt wz w.heap.size (l.length + 1) (nextJ l.length (lastJ 0 0 l) r) (textJ 0 0 l ++ (lineJ l.length (lastJ 0 0 l) r ++ [10]))) (bel : Below w.heap.size w wz) : RcvSt w s (l ++ [r]) a' c' wz := by
  obtain ⟨hok, t, ht⟩ := (readJ_iff _ _ _ _).1 hr
  have e1 : textJ 0 0 (l ++ [r]) = textJ 0 0 l ++ (lineJ l.length (lastJ 0 0 l) r ++ [10]) := by rw [textJ_snoc, Nat.zero_add]
  have e2 : lastJ 0 0 (l ++ [r]) = nextJ l.length (lastJ 0 0 l) r := by rw [lastJ_snoc, Nat.zero_add]
  refine ⟨?_, by simp; omega, ?_, ?_, own, ?_, bel⟩
  · intro x hx
    rcases List.mem_append.1 hx with hx | hx
    · exact h.ok x hx
    · simp at hx; subst hx; exact hok
  · rw [h.got, show 300 - l.length = (300 - (l.length + 1)) + 1 by omega, recJ_some hr, e2, e1, List.drop_drop]
    simp
  · have := congrArg List.length ht
    rw [e1]
    simp only [List.length_drop, List.length_append, List.length_cons, List.length_nil] at this ⊢
    have := h.fit
    omega
  · rw [e1, e2]; simpa using jn

set_option maxRecDepth 100000 in
set_option pp.deepTerms true in
set_option maxHeartbeats 1000000 in
theorem recovered_any (s : ByteArray) (w : World) (hs : s.size ≤ 20000) (hE : Env w) :
    Calls Tryz.prog 63 #[.string s] w fun e w' => ∃ a c l, l = recJ 300 0 0 s.data.toList ∧ e = .returned (.tuple #[.slice a l.length c, .pointer (some ⟨w.heap.size, 0, none⟩)]) ∧ RcvSt w s.data.toList l a c w' := by
  have HE := Lib.hid hE
  have hsl : s.data.toList.length = s.size := rfl
  clear hE
  have HR0 : Hid (RcvSt w s.data.toList [] (some ⟨w.heap.size + 1, 0, none⟩) 0 ((w.alloc (.cells #[.slice none 0 0, .int .i64 0, .int .i64 0] 134 (0, 0))).alloc (.cells #[] 53 (0, 0)))) := Lib.hid (by
    refine ⟨by simp, by simp, by simp [lastJ, textJ], by simp [textJ], ?_, ⟨none, 0, (heap2 w _ _).1, OwnB.nil _ _⟩, ba2 w _ _⟩
    have h := Enc.Own.new rcE (w.alloc (.cells #[.slice none 0 0, .int .i64 0, .int .i64 0] 134 (0, 0)))
    rw [World.size_alloc] at h
    exact h)
  go_enter Tryz.func63, Tryz.ntmps63
  go_wp2_with fail
  go_loopw [5, 6, 7] (fun q _ _ wr => ∃ (l : List Rc) (a : Option Addr) (c : Nat), q = .slice a l.length c ∧ RcvSt w s.data.toList l a c wr) (fun q _ _ _ => 300 - (match q with | .slice _ n _ => n | _ => 0))
  case atStart => exact ⟨[], _, 0, rfl, HR0.out⟩
  case round =>
    clear HR0
    obtain ⟨l, a, c, rfl, hst⟩ := hrel
    have HST := Lib.hid hst
    by_cases hlt : l.length < 300
    · obtain ⟨ja, jc, hj1, hj2⟩ := hst.jn
      obtain ⟨hcj, hfj⟩ := heap_cellR hj1
      have hfit := hst.fit
      rw [hsl] at hfit
      have hwz : w.heap.size ≤ wr.heap.size := hst.bel.size
      have hwl := blkLt hj1
      clear hst hj1 hj2
      obtain ⟨N, hN⟩ : ∃ N, (textJ 0 0 l).length = N := ⟨_, rfl⟩
      rw [hN] at hcj hfit
      have HN := Lib.hid hN
      obtain ⟨rs, hrs⟩ : ∃ rs, s.extract N s.size = rs := ⟨_, rfl⟩
      have hrl : rs.data.toList = s.data.toList.drop N := by
        rw [← hrs]
        simp only [ByteArray.data_extract, Array.toList_extract, List.extract_eq_take_drop]
        rw [List.take_of_length_le]
        simp [hsl]
      have hrz : rs.size ≤ 20000 := by
        have h1 := congrArg List.length hrl
        rw [List.length_drop] at h1
        have h2 : rs.data.toList.length = rs.size := rfl
        omega
      have hcv := Lib.run_convert_string_bytes (P := Tryz.prog) wr 9 22 5 rs Tryz.underlying9 Tryz.underlying22 Tryz.underlying5
      have HRL := Lib.hid hrl
      have HBB := Lib.hid (Lib.bytesWorld_below wr 5 rs)
      have hwB : (Lib.bytesWorld wr 5 rs).heap.size = wr.heap.size + 1 := Lib.bytesWorld_size _ _ _
      have HAT := Lib.hid (bysWorld_at wr rs)
      have HCG := Lib.hid (show rs.size ≤ grownCap wr rs.size 0 5 ∧ grownCap wr rs.size 0 5 ≤ maxLen from ⟨grownCap_ge _ _ _ _, grownCap_le_maxLen _ _ _ _ (by unfold maxLen; omega)⟩)
      clear hN hrl
      go_wp2_with fail
      obtain ⟨WB, hWB⟩ : ∃ WB, Lib.bytesWorld wr 5 rs = WB := ⟨_, rfl⟩
      rw [hWB] at HBB hwB HAT ⊢
      obtain ⟨G, hG⟩ : ∃ G, grownCap wr rs.size 0 5 = G := ⟨_, rfl⟩
      rw [hG] at HCG ⊢
      obtain ⟨ja2, jc2, hj1, hj2⟩ := HST.out.jn.below HBB.out
      have hlr := lastJ_range l 0 (s := 0) (by omega)
      refine (readLine_any w.heap.size l.length (lastJ 0 0 l) _ wr.heap.size G rs.data.toList WB hj1 HAT.out (by show rs.size ≤ _; omega) HCG.out.1 HCG.out.2 (by omega) hlr (HE.out.next (bt0 HST.out.bel HBB.out (Nat.le_refl _)))).mono ?_
      rintro e w4 ⟨rk, ri, rfl, hrk, hb4⟩
      have HB4 := Lib.hid (bt0 (bt0 HST.out.bel HBB.out (Nat.le_refl _)) hb4 (Nat.le_refl _))
      have HBR4 := Lib.hid (HBB.out.trans (hb4.mono (by omega)))
      have hw4 := hb4.size
      clear hcv hcj hfj hrs hWB hG hb4 hj1 hj2
      cases hrd : readJ l.length (lastJ 0 0 l) rs.data.toList with
      | none =>
        have HN2 := Lib.hid hrd
        simp only [Option.isSome]
        clear hrd hrk
        go_wp2_with fail
        go_ret2
        refine ⟨a, c, l, ?_, rfl, HST.out.ok, HST.out.len, HST.out.got, HST.out.fit, HST.out.own.grown ?_, HST.out.jn.below ?_, ?_⟩
        · have h1 := HST.out.got
          rw [HN.out, ← HRL.out, recJ_none HN2.out, List.append_nil] at h1
          exact h1.symm
        · exact HBR4.out.trans ((ba1 w4 _).mono (by omega))
        · exact HBR4.out.trans ((ba1 w4 _).mono (by omega))
        · exact HB4.out.trans ((ba1 w4 _).mono (by omega))
      | some r =>
        obtain ⟨rfl, rfl⟩ := hrk r hrd
        have HN2 := Lib.hid hrd
        have hw4b : w.heap.size < w4.heap.size := by omega
        have HBX := Lib.hid (heap2 w4 (.cells #[.int .i64 r.k, .int .i64 r.n] 53 (0, 0)) (.cells #[.int .i64 r.k, .int .i64 r.n] 53 (0, 0)))
        have hb5 := ba2 w4 (.cells #[.int .i64 r.k, .int .i64 r.n] 53 (0, 0)) (.cells #[.int .i64 r.k, .int .i64 r.n] 53 (0, 0))
        have HBR5 := Lib.hid (HBR4.out.trans (hb5.mono (by omega)))
        have HB5 := Lib.hid (HB4.out.trans (hb5.mono (by omega)))
        simp only [Option.isSome]
        clear hrd hrk hb5
        go_wp2_with (at_builtin; refine wpList_append_rc (o := _) (s := .tmp 29) (x := .tmp 31) rfl rfl (w.heap.size + 1) (.slice a l.length c) l r rfl (HST.out.own.grown HBR5.out) (w4.heap.size + 1) rfl HBX.out.2 (by omega) (by simp; omega) ?h9)
        case h9 =>
        intro a6 c6 l6 w6 he6 ho6 hg6 hb6
        have hown4 := HST.out.own.grown HBR5.out
        have hb4n : some w4.heap.size ≠ (Value.slice a l.length c).ownBlock := fun e => by
          have := Enc.Own.hi HST.out.own _ e.symm
          omega
        have hbx6 := (hg6.block w4.heap.size (by simp; omega) (fun e => hb4n e)).trans HBX.out.1
        have hc6 := (heap_cellR hbx6).1
        have HJ6 := Lib.hid ((HST.out.jn.below HBR5.out).other hown4 (Nat.lt_succ_self _) hg6)
        have HB6 := Lib.hid (HB5.out.trans (hb6.mono (Nat.le_succ _)))
        have HO6 := Lib.hid ho6
        have HL6 := Lib.hid he6
        have hz6 : w4.heap.size < w6.heap.size := blkLt hbx6
        clear hown4 hb4n hg6 hb6 ho6 he6 hbx6
        go_wp2_with fail
        have hlx : (textJ 0 0 l).length ≤ 100000 := by have := HST.out.fit; omega
        refine (add_any w.heap.size l.length (lastJ 0 0 l) (textJ 0 0 l) r _ HJ6.out ((readJ_iff _ _ _ _).1 HN2.out).1 (by omega) hlr hlx (HE.out.next HB6.out).tab).mono ?_
        rintro e w7 ⟨rfl, hj7, hg7⟩
        have HJ7 := Lib.hid hj7
        have HO7 := Lib.hid (HO6.out.src (Nat.lt_succ_self _) hg7)
        have HB7 := Lib.hid (HB6.out.trans (below_of_grownBy hg7 (by omega) (fun k e => by cases e; exact Nat.le_refl _)))
        clear hj7 hg7 hc6 hlx
        go_wp2_with fail
        refine ⟨⟨l6, a6, c6, rfl, ?_⟩, ?_⟩
        · have e6 := HL6.out
          have ho7 := HO7.out
          subst e6
          exact HST.out.next hlt (by rw [HN.out, ← HRL.out]; exact HN2.out) ho7 HJ7.out HB7.out
        · have := congrArg List.length HL6.out
          simp at this
          show 300 - l6.length < 300 - l.length
          omega
    · have hl300 : l.length = 300 := by have := hst.len; omega
      clear hst
      go_wp2_with fail
      go_ret2
      exact ⟨a, c, l, by have := HST.out.got; rw [hl300, Nat.sub_self, recJ, List.append_nil] at this; exact this.symm, rfl, HST.out⟩

end Go.Proofs.YtpilkgcghlfdmaaGreatDoor
namespace Go.Proofs.YtpilkgcghlfdmaaGreatDoor
open Go.RowKit

/-- the records of the longest journal with which a text begins -/
def recS (s : ByteArray) : List Rc := if 20000 < s.size then [] else recJ 300 0 0 s.data.toList
def overS (s : ByteArray) : Bool := decide (20000 < s.size)
/-- the journal of records as a text -/
def textB (l : List Rc) : ByteArray := ⟨(textJ 0 0 l).toArray⟩
theorem textB_size (l : List Rc) : (textB l).size = (textJ 0 0 l).length := rfl
/-- what RecoverJournal answers -/
def RetRJ (w : World) (s : ByteArray) (e : Ending) (w' : World) : Prop := ∃ a c l, l = recS s ∧ e = .returned (.tuple #[.slice a l.length c, .int .i64 (if overS s = true then 0 else (s.size : Int) - ((textJ 0 0 l).length : Int)), .int .i64 (if overS s = true then 3 else 0)]) ∧ rcE.Own w' w.heap.size (.slice a l.length c) l ∧ Below w.heap.size w w'
theorem recS_prop (s : ByteArray) : (∀ r ∈ recS s, r.ok = true) ∧ (recS s).length ≤ 300 ∧ ∃ t, s.data.toList = textJ 0 0 (recS s) ++ t := by
  unfold recS
  split
  · exact ⟨by simp, by simp, _, by simp [textJ]; rfl⟩
  · exact recJ_prop 300 0 0 s.data.toList
theorem recS_len (s : ByteArray) : (textJ 0 0 (recS s)).length ≤ s.size := by
  obtain ⟨_, _, t, ht⟩ := recS_prop s
  have := congrArg List.length ht
  rw [List.length_append] at this
  have h2 : s.data.toList.length = s.size := rfl
  omega

set_option maxRecDepth 100000 in
set_option maxHeartbeats 1000000 in
theorem recoverJournal_any (s : ByteArray) (w : World) (hs : s.size ≤ 1048576) (hE : Env w) :
    Calls Tryz.prog 36 #[.string s] w (RetRJ w s) := by
  have HE := Lib.hid hE
  clear hE
  by_cases hb : 20000 < s.size
  · have h1 : (20000 : Int) < (s.size : Int) := by omega
    have HO : Hid (overS s = true) := Lib.hid (by simpa [overS] using hb)
    have HR : Hid (recS s = []) := Lib.hid (by rw [recS, if_pos hb])
    clear hb
    go_enter Tryz.func36, Tryz.ntmps36
    go_wp2_with fail
    go_ret3
    exact ⟨none, 0, [], HR.out.symm, by rw [HO.out]; rfl, Enc.Own.nil _ _ _, Below.refl _ _⟩
  · have h1 : ¬ (20000 : Int) < (s.size : Int) := by omega
    have HO : Hid (overS s = false) := Lib.hid (by simpa [overS] using hb)
    have HR : Hid (recS s = recJ 300 0 0 s.data.toList) := Lib.hid (by rw [recS, if_neg hb])
    have hs2 : s.size ≤ 20000 := by omega
    clear hb
    go_enter Tryz.func36, Tryz.ntmps36
    go_wp2_with fail
    refine (recovered_any s w hs2 HE.out).mono ?_
    rintro e w1 ⟨a, c, l, hl, rfl, hst⟩
    have HST := Lib.hid hst
    have HL := Lib.hid (HR.out.trans hl.symm)
    obtain ⟨ja, jc, hj1, hj2⟩ := hst.jn
    obtain ⟨hcj, hfj⟩ := heap_cellR hj1
    have hfit := hst.fit
    have hsl : s.data.toList.length = s.size := rfl
    rw [hsl] at hfit
    obtain ⟨N, hN⟩ : ∃ N, (textJ 0 0 l).length = N := ⟨_, rfl⟩
    rw [hN] at hcj hfit
    have HN := Lib.hid hN
    have e1 : IntKind.i64.wrap ((s.size : Int) - (N : Int)) = (s.size : Int) - (N : Int) := IntWalk.i64_in _ (by omega)
    clear hst hj1 hj2 hl hN hs2 hs
    go_wp2_with fail
    go_quiet (fail)
    go_wp2_with fail
    go_ret3
    exact ⟨a, c, l, HL.out.symm, by rw [HO.out, HN.out]; rfl, (HST.out.own.weak (Nat.le_succ _)).grown (below_drewN _ _), HST.out.bel.trans (below_drewN _ _)⟩

/-- what ExtendJournal answers -/
def extS (s : ByteArray) (r : Rc) : ByteArray × Int := if r.ok = true then (if overS s = true then (⟨#[]⟩, 3) else if (recS s).length = 300 then (⟨#[]⟩, 3) else (textB (recS s ++ [r]), 0)) else (⟨#[]⟩, 1)
def RetJx (w : World) (t : ByteArray × Int) (e : Ending) (w' : World) : Prop := e = .returned (.tuple #[.string t.1, .int .i64 t.2]) ∧ Below w.heap.size w w'
theorem retJx_eq {w w' : World} {t : ByteArray × Int} {b : ByteArray} {c : Int} (h : t = (b, c)) (hb : Below w.heap.size w w') : RetJx w t (.returned (.tuple #[.string b, .int .i64 c])) w' := by subst h; exact ⟨rfl, hb⟩

/-- what JournalSum answers -/
def sumS (s : ByteArray) : Int × Int := if overS s = true then (0, 3) else (lastJ 0 0 (recS s), 0)
end Go.Proofs.YtpilkgcghlfdmaaGreatDoor
namespace Go.Proofs.YtpilkgcghlfdmaaGreatDoor
open Go.RowKit

/-- the code of a list of records -/
def codeJ (l : List Rc) : Int := if 300 < l.length then 3 else if l.all Rc.ok = true then 0 else 1
/-- what JournalOf answers -/
def jrnS (l : List Rc) : ByteArray × Int := if codeJ l = 0 then (textB l, 0) else (⟨#[]⟩, codeJ l)
theorem all_take_step {l : List Rc} {k : Nat} {r : Rc} (hr : l[k]? = some r) (h : (l.take k).all Rc.ok = true) (ho : r.ok = true) : (l.take (k + 1)).all Rc.ok = true := by
  rw [take_snoc' hr, List.all_append, h]; simpa using ho
theorem all_bad {l : List Rc} {k : Nat} {r : Rc} (hr : l[k]? = some r) (ho : r.ok = false) : l.all Rc.ok = false := by
  rw [Bool.eq_false_iff]; intro h
  rw [List.all_eq_true] at h
  rw [h r (List.mem_of_getElem? hr)] at ho; cases ho

theorem codeJ_ok {l : List Rc} (h : codeJ l = 0) : l.length ≤ 300 ∧ ∀ r ∈ l, r.ok = true := by
  unfold codeJ at h
  split at h
  · cases h
  · split at h
    · rename_i h1 h2
      exact ⟨by omega, List.all_eq_true.1 h2⟩
    · cases h
theorem textJ_take {l : List Rc} {k : Nat} {r : Rc} (hr : l[k]? = some r) : textJ 0 0 (l.take k) ++ (lineJ k (lastJ 0 0 (l.take k)) r ++ [10]) = textJ 0 0 (l.take (k + 1)) ∧ nextJ k (lastJ 0 0 (l.take k)) r = lastJ 0 0 (l.take (k + 1)) := by
  have hk : (l.take k).length = k := by
    have := (List.getElem?_eq_some_iff.1 hr).1
    simp; omega
  rw [take_snoc' hr, textJ_snoc, lastJ_snoc, Nat.zero_add, hk]
  exact ⟨rfl, rfl⟩

end Go.Proofs.YtpilkgcghlfdmaaGreatDoor
namespace Go.Proofs.YtpilkgcghlfdmaaGreatDoor
open Go.RowKit

/-- how many records with an index each kind has -/
def cntJ (l : List Rc) (i : Int) : List Int := [1, 2, 3, 4].map fun k => ((l.filter fun r => r.n == i && r.k == k).length : Int)
theorem cntJ_snoc (l : List Rc) (i : Int) (r : Rc) : cntJ (l ++ [r]) i = if r.n = i then (cntJ l i).zipWith (· + ·) ([1, 2, 3, 4].map fun k => if r.k = k then 1 else 0) else cntJ l i := by
  unfold cntJ
  by_cases h : r.n = i
  · rw [if_pos h]
    simp only [List.map_cons, List.map_nil, List.filter_append, List.length_append, List.zipWith_cons_cons, List.zipWith_nil_left]
    have e : ∀ k : Int, ((List.filter (fun r => r.n == i && r.k == k) [r]).length : Int) = if r.k = k then 1 else 0 := by
      intro k
      by_cases hk : r.k = k <;> simp [hk, h]
    simp only [Int.natCast_add, e]
  · rw [if_neg h]
    simp [h]
theorem cntJ_len (l : List Rc) (i : Int) : (cntJ l i).length = 4 := rfl
theorem cntJ_hit {l : List Rc} {k j : Nat} {i : Int} {r : Rc} (hr : l[k]? = some r) (hi : r.n = i) (hj : r.k = j + 1) (h4 : j < 4) : ∃ z, (cntJ (l.take k) i)[j]? = some z ∧ 0 ≤ z ∧ z ≤ k ∧ (cntJ (l.take k) i).set j (z + 1) = cntJ (l.take (k + 1)) i := by
  have hb : ∀ q : Int, ((List.filter (fun r => r.n == i && r.k == q) (l.take k)).length : Int) ≤ k := fun q => by
    have := List.length_filter_le (fun r : Rc => r.n == i && r.k == q) (l.take k)
    have h2 := List.length_take_le k l
    omega
  rw [take_snoc' hr, cntJ_snoc, if_pos hi, hj]
  have hj4 : j = 0 ∨ j = 1 ∨ j = 2 ∨ j = 3 := by omega
  rcases hj4 with rfl | rfl | rfl | rfl
  all_goals
    refine ⟨_, rfl, by simp, hb _, ?_⟩
    simp [cntJ]
theorem cntJ_miss {l : List Rc} {k : Nat} {i : Int} {r : Rc} (hr : l[k]? = some r) (hi : r.n ≠ i) : cntJ (l.take (k + 1)) i = cntJ (l.take k) i := by
  rw [take_snoc' hr, cntJ_snoc, if_neg hi]
/-- the code of CountRecords -/
def cntCode (l : List Rc) (i : Int) : Int := if codeJ l = 0 then (if inB i 0 199 = true then 0 else 2) else codeJ l
def RetCnt (w : World) (l : List Rc) (i : Int) (e : Ending) (w' : World) : Prop := ∃ a c zs, zs = (if cntCode l i = 0 then cntJ l i else []) ∧ e = .returned (.tuple #[.slice a zs.length c, .int .i64 (cntCode l i)]) ∧ OwnI w' w.heap.size (.slice a zs.length c) zs ∧ Below w.heap.size w w'
theorem retCnt_no {w w' : World} {l : List Rc} {i cd : Int} (h : cntCode l i = cd) (h0 : cd ≠ 0) (hb : Below w.heap.size w w') : RetCnt w l i (.returned (.tuple #[.slice none 0 0, .int .i64 cd])) w' :=
  ⟨none, 0, [], by rw [h, if_neg h0], by rw [h]; rfl, World.ownsRow_nil _ _ _ _, hb⟩

theorem run_make4 (w : World) : (Instr.makeSlice 35 (.int .i64 4) (.int .i64 4)).run Tryz.prog w = .ok (.slice (some ⟨w.heap.size, 0, none⟩) 4 4) (w.alloc (.cells #[.int .i64 0, .int .i64 0, .int .i64 0, .int .i64 0] 2)) := by kernel_rfl
theorem own_make4 (w : World) : OwnI (w.alloc (.cells #[.int .i64 0, .int .i64 0, .int .i64 0, .int .i64 0] 2)) w.heap.size (.slice (some ⟨w.heap.size, 0, none⟩) 4 4) [0, 0, 0, 0] :=
  World.ownsRow_lit (base := w.heap.size) (size := 1) w #[.int .i64 0, .int .i64 0, .int .i64 0, .int .i64 0] 4 (Nat.le_refl _) (by unfold maxLen; omega) rfl

end Go.Proofs.YtpilkgcghlfdmaaGreatDoor
namespace Go.Proofs.YtpilkgcghlfdmaaGreatDoor
open Go.RowKit

theorem infoStr : (Tryz.prog.info? 9).map (fun i => (i.zero, i.size, i.bytes)) = some (some (.string ⟨#[]⟩), 1, 16) := by kernel_rfl
/-- while a text is cut -/
structure SplI (l : List UInt8) (c : UInt8) (k f : Nat) (ss : List ByteArray) : Prop where
  len : k ≤ l.length + 1
  fk : f ≤ k
  num : ss.length ≤ k
  mid : k ≤ l.length → bytesL ss ++ cut c (l.drop f) = cut c l ∧ c ∉ (l.drop f).take (k - f)
  fin : k = l.length + 1 → bytesL ss = cut c l

theorem splI_start (l : List UInt8) (c : UInt8) : SplI l c 0 0 [] :=
  ⟨Nat.zero_le _, Nat.le_refl _, Nat.zero_le _, fun _ => by simp [bytesL], fun h => by omega⟩
theorem splI_skip {l : List UInt8} {c x : UInt8} {k f : Nat} {ss : List ByteArray} (h : SplI l c k f ss) (hx : l[k]? = some x) (hne : x ≠ c) : SplI l c (k + 1) f ss := by
  have hk : k < l.length := (List.getElem?_eq_some_iff.1 hx).1
  obtain ⟨h1, h2⟩ := h.mid (by omega)
  have hfk := h.fk
  refine ⟨by omega, by omega, by have := h.num; omega, fun _ => ⟨h1, ?_⟩, fun e => by omega⟩
  rw [show k + 1 - f = (k - f) + 1 by omega]
  rw [List.take_add_one, List.getElem?_drop, show f + (k - f) = k by omega, hx]
  simp only [Option.toList_some, List.mem_append, List.mem_singleton, not_or]
  exact ⟨h2, fun e => hne e.symm⟩
theorem drop_split {l : List UInt8} {x : UInt8} {k f : Nat} (hx : l[k]? = some x) (hfk : f ≤ k) : l.drop f = (l.drop f).take (k - f) ++ x :: l.drop (k + 1) := by
  have hk : k < l.length := (List.getElem?_eq_some_iff.1 hx).1
  have e := (List.take_append_drop (k - f) (l.drop f)).symm
  rw [List.drop_drop, show f + (k - f) = k by omega] at e
  rw [List.drop_eq_getElem_cons hk] at e
  have hxk : l[k] = x := (List.getElem?_eq_some_iff.1 hx).2
  rw [hxk] at e
  exact e
theorem bytesL_snoc (ss : List ByteArray) (b : ByteArray) : bytesL (ss ++ [b]) = bytesL ss ++ [b.data.toList] := by rw [bytesL, List.map_append]; rfl
theorem splI_cut {l : List UInt8} {c : UInt8} {k f : Nat} {ss : List ByteArray} {b : ByteArray} (h : SplI l c k f ss) (hx : l[k]? = some c) (hb : b.data.toList = (l.drop f).take (k - f)) : SplI l c (k + 1) (k + 1) (ss ++ [b]) := by
  have hk : k < l.length := (List.getElem?_eq_some_iff.1 hx).1
  obtain ⟨h1, h2⟩ := h.mid (by omega)
  refine ⟨by omega, by omega, by have := h.num; simp; omega, fun _ => ⟨?_, by simp⟩, fun e => by omega⟩
  rw [bytesL_snoc, hb, List.append_assoc, List.singleton_append, ← h1]
  conv => rhs; rw [drop_split hx h.fk, cut_app c _ _ h2]
theorem splI_end {l : List UInt8} {c : UInt8} {f : Nat} {ss : List ByteArray} {b : ByteArray} (h : SplI l c l.length f ss) (hb : b.data.toList = (l.drop f).take (l.length - f)) : SplI l c (l.length + 1) (l.length + 1) (ss ++ [b]) := by
  obtain ⟨h1, h2⟩ := h.mid (Nat.le_refl _)
  refine ⟨Nat.le_refl _, by omega, by have := h.num; simp; omega, fun e => by omega, fun _ => ?_⟩
  have e : (l.drop f).take (l.length - f) = l.drop f := List.take_of_length_le (by simp)
  rw [e] at h2 hb
  rw [bytesL_snoc, hb, ← h1, cut_piece c _ h2]
theorem extract_toList (s : ByteArray) (f k : Nat) : (s.extract f k).data.toList = (s.data.toList.drop f).take (k - f) := by
  rw [ByteArray.data_extract, Array.toList_extract, List.extract_eq_take_drop]
theorem str_one_new (w : World) (x : ByteArray) (t : TypeId) : ∀ j u, [Value.string x][j]? = some u → (w.alloc (.cells #[.string x] t (0, 0))).cell? ((⟨w.heap.size, 0, none⟩ : Addr).add j) = some u := by
  intro j u hu
  rw [Addr.add_lit, Nat.zero_add, ← hu]
  simp
theorem str_one (x : ByteArray) : ∀ u ∈ [Value.string x], u.oneCell' = true := by
  intro u hu
  simp only [List.mem_singleton] at hu
  subst hu; rfl
theorem OwnS.snoc {w : World} {base : Nat} {v : Value} {ss : List ByteArray} {b : ByteArray} (h : w.ownsRow base 9 1 v (ss.length + 1) (ss.map Value.string ++ [.string b])) : OwnS w base v (ss ++ [b]) := by
  unfold OwnS
  rw [List.length_append, List.map_append]
  simpa using h
theorem OwnS.new (w : World) : OwnS (w.alloc (.cells #[] 9 (0, 0))) w.heap.size (.slice (some ⟨w.heap.size, 0, none⟩) 0 0) [] :=
  World.ownsRow_lit (base := w.heap.size) (size := 1) w #[] 0 (Nat.le_refl _) (by unfold maxLen; omega) rfl

/-- texts of the call's own are handed back -/
def RetStrs (w : World) (l : List (List UInt8)) (e : Ending) (w' : World) : Prop :=
  ∃ (ss : List ByteArray) (a : Option Addr) (cp : Nat), bytesL ss = l ∧ e = .returned (.slice a ss.length cp) ∧ OwnS w' w.heap.size (.slice a ss.length cp) ss ∧ Below w.heap.size w w'
theorem below_of_grownBy' {w wr w9 : World} {v : Value} {o : Obj} (hb : Below w.heap.size w wr) (hlo : ∀ k, v.ownBlock = some k → w.heap.size ≤ k) (hg : (wr.alloc o).grownBy w9 v.ownBlock) : Below w.heap.size w w9 :=
  (bt0 hb (ba1 _ _) (Nat.le_refl _)).trans (below_of_grownBy hg (by have := hb.size; simp; omega) hlo)

set_option maxRecDepth 100000 in
set_option maxHeartbeats 1000000 in
theorem l01Split_any (s : ByteArray) (c : UInt8) (w : World) (hs : s.size ≤ 1048576) :
    Calls Tryz.prog 71 #[.string s, .int .u8 c.toNat] w (RetStrs w (cut c s.data.toList)) := by
  obtain ⟨i0, hi, y0, y1, y2⟩ := info_parts infoStr
  go_enter Tryz.func71, Tryz.ntmps71
  go_wp2_with fail
  go_loopw [5, 6, 7] (fun v f i wr => ∃ (k g : Nat) (ss : List ByteArray), i = .int .i64 k ∧ f = .int .i64 g ∧ SplI s.data.toList c k g ss ∧ OwnS wr w.heap.size v ss ∧ Below w.heap.size w wr) (fun _ _ i _ => s.data.toList.length + 1 - (intOf i).toNat)
  case atStart => exact ⟨0, 0, [], rfl, rfl, splI_start _ _, OwnS.new w, ba1 _ _⟩
  case round =>
    obtain ⟨k, g, ss, rfl, rfl, hi', ho, hb⟩ := hrel
    obtain ⟨a, cp, rfl, -⟩ := ho.read
    have HI := Lib.hid hi'
    have HO := Lib.hid ho
    have HB := Lib.hid hb
    have hfk := hi'.fk
    have hkl := hi'.len
    have HNM := Lib.hid hi'.num
    have HBS := Lib.hid hb.size
    clear hi' ho hb
    have hsz : s.data.toList.length = s.size := rfl
    by_cases hlt : k < s.size
    · have hk1 : (k : Int) ≤ (s.size : Int) := by omega
      have hk2 : ((k : Int) == (s.size : Int)) = false := by simp; omega
      have hxk : Hid (s.data.toList[k]? = some s[k]) := Lib.hid (by
        rw [List.getElem?_eq_getElem (by omega)]
        rfl)
      by_cases hx : s[k] = c
      · have hx2 : (((s[k].toNat : Nat) : Int) == ((c.toNat : Nat) : Int)) = true := by rw [hx]; simp
        have HXK : Hid (s.data.toList[k]? = some c) := Lib.hid (by rw [hxk.out, hx])
        clear hx hxk
        go_wp2_with (at_builtin; refine wpList_append_own _ rfl _ _ 58 rfl w.heap.size 9 i0 (.string ⟨#[]⟩) 1 16 Tryz.underlying58 hi y0 y1 y2 rfl (by decide) _ _ _ rfl (World.ownsRow.alloc HO.out _) ⟨wr.heap.size, 0, none⟩ 1 1 [.string (s.extract g k)] rfl rfl (str_one_new _ _ _) (str_one _) (by have := HNM.out; unfold maxLen; omega) (by have := HNM.out; omega) (by have := HBS.out; simp; omega) ?_; intro v' w9 hown3 hgrow3 _)
        refine ⟨⟨k + 1, k + 1, _, by go_num, by go_num, splI_cut HI.out HXK.out (extract_toList s g k), OwnS.snoc hown3, ?_⟩, by simp [intOf]; omega⟩
        exact below_of_grownBy' HB.out HO.out.lo hgrow3
      · have hx2 : (((s[k].toNat : Nat) : Int) == ((c.toNat : Nat) : Int)) = false := by
          rw [Bool.eq_false_iff]; intro e
          have e2 : ((s[k].toNat : Nat) : Int) = ((c.toNat : Nat) : Int) := by simpa using e
          exact hx (UInt8.toNat_inj.1 (by omega))
        have HX := Lib.hid hx
        clear hx
        go_wp2_with fail
        exact ⟨⟨k + 1, g, ss, by go_num, rfl, splI_skip HI.out hxk.out HX.out, HO.out, HB.out⟩, by simp [intOf]; omega⟩
    · by_cases hlt2 : k = s.size
      · subst hlt2
        go_wp2_with (at_builtin; refine wpList_append_own _ rfl _ _ 58 rfl w.heap.size 9 i0 (.string ⟨#[]⟩) 1 16 Tryz.underlying58 hi y0 y1 y2 rfl (by decide) _ _ _ rfl (World.ownsRow.alloc HO.out _) ⟨wr.heap.size, 0, none⟩ 1 1 [.string (s.extract g s.size)] rfl rfl (str_one_new _ _ _) (str_one _) (by have := HNM.out; unfold maxLen; omega) (by have := HNM.out; omega) (by have := HBS.out; simp; omega) ?_; intro v' w9 hown3 hgrow3 _)
        refine ⟨⟨s.size + 1, s.size + 1, _, by go_num, by go_num, splI_end HI.out (extract_toList s g s.size), OwnS.snoc hown3, ?_⟩, by first | (simp [intOf]; done) | (simp [intOf]; omega)⟩
        exact below_of_grownBy' HB.out HO.out.lo hgrow3
      · have hk3 : k = s.size + 1 := by omega
        have hk1 : ¬ (k : Int) ≤ (s.size : Int) := by omega
        go_wp2_with fail
        go_ret
        exact ⟨ss, a, cp, HI.out.fin hk3, rfl, HO.out, HB.out⟩

end Go.Proofs.YtpilkgcghlfdmaaGreatDoor
namespace Go.Proofs.YtpilkgcghlfdmaaGreatDoor
open Go.RowKit

theorem decB_eq {n : Int} {s : ByteArray} (h : Lib.itoa n = s.data.toList) : decB n = s := by
  apply ByteArray.ext; simp [decB, h]
theorem rnum_none {l : List UInt8} (h : ∀ n, Lib.parseIntB 64 l ≠ .ok n) : rnum l = none := by
  unfold rnum; split
  · rename_i n hn; exact absurd hn (h n)
  · rfl

set_option maxHeartbeats 1000000 in
theorem readNumber_any (s : ByteArray) (w : World) (hs : s.size ≤ 281474976710656) (hE : Env w) :
    Calls Tryz.prog 83 #[.string s] w fun e w' => ∃ v, e = .returned (.tuple #[.int .i64 v, .bool (rnum s.data.toList).isSome]) ∧ (∀ n, rnum s.data.toList = some n → v = n) ∧ Below w.heap.size w w' := by
  have HE := Lib.hid hE
  clear hE
  go_enter Tryz.func83, Tryz.ntmps83
  go_wp2_with fail
  refine (parse_any s w hs HE.out).mono ?_
  rintro e w1 ⟨⟨n, hp, rfl⟩ | ⟨hp, v, t, p, rfl⟩, hb1⟩
  · have HB1 := Lib.hid hb1
    have HP := Lib.hid hp
    obtain ⟨h0, h1⟩ := Lib.parseIntB_bounds hp
    have h0' : -9223372036854775808 ≤ n := by simpa using h0
    have h1' : n ≤ 9223372036854775807 := by have : n < 9223372036854775808 := by simpa using h1
                                             omega
    clear hb1 hp h0 h1
    go_wp2_with fail
    refine (formatInt_any n _ h0' h1' (HE.out.next HB1.out).tab).mono ?_
    rintro e w2 ⟨rfl, hb2⟩
    have HB2 := Lib.hid (bt0 HB1.out hb2 (Nat.le_refl _))
    clear hb2
    by_cases he : Lib.itoa n = s.data.toList
    · have E := Lib.hid (show rnum s.data.toList = some n by unfold rnum; rw [HP.out]; simp [he])
      have e2 : ((decB n).toList == s.toList) = true := by rw [decB_eq he]; simp
      clear he
      go_wp2_with fail
      go_ret2
      exact ⟨n, by rw [E.out]; rfl, (fun m hm => by rw [E.out] at hm; exact Option.some.inj hm), HB2.out⟩
    · have E := Lib.hid (show rnum s.data.toList = none by unfold rnum; rw [HP.out]; simp [he])
      have e2 : ((decB n).toList == s.toList) = false := by
        rw [Bool.eq_false_iff]; intro h
        rw [beq_iff_eq, ByteArray.toList_eq, ByteArray.toList_eq] at h
        exact he (by rw [← h]; simp [decB])
      clear he
      go_wp2_with fail
      go_ret2
      exact ⟨n, by rw [E.out]; rfl, (fun m hm => by rw [E.out] at hm; cases hm), HB2.out⟩
  · have HB1 := Lib.hid hb1
    have E := Lib.hid (rnum_none hp)
    clear hb1 hp
    go_wp2_with fail
    go_ret2
    exact ⟨v, by rw [E.out]; rfl, (fun m hm => by rw [E.out] at hm; cases hm), HB1.out⟩

end Go.Proofs.YtpilkgcghlfdmaaGreatDoor
namespace Go.Proofs.YtpilkgcghlfdmaaGreatDoor
open Go.RowKit

theorem dval_snoc (l : List UInt8) (x : UInt8) : dval (l ++ [x]) = 10 * dval l + (x.toNat - 48) := by simp [dval, List.foldl_append]
/-- all bytes are digits -/
def DigL (l : List UInt8) : Prop := ∀ x ∈ l, 48 ≤ x.toNat ∧ x.toNat ≤ 57
/-- while digits are read -/
structure ValI (l : List UInt8) (k n : Nat) : Prop where
  len : k ≤ l.length
  val : n = dval (l.take k)
  bd : n < 10 ^ k
  dig : DigL (l.take k)
theorem valI_start (l : List UInt8) : ValI l 0 0 := ⟨Nat.zero_le _, by simp [dval], by simp, by intro x hx; simp at hx⟩
theorem valI_step {l : List UInt8} {k n : Nat} {x : UInt8} (h : ValI l k n) (hx : l[k]? = some x) (h1 : 48 ≤ x.toNat) (h2 : x.toNat ≤ 57) : ValI l (k + 1) (10 * n + (x.toNat - 48)) := by
  have hk : k < l.length := (List.getElem?_eq_some_iff.1 hx).1
  have ht := take_snoc' hx
  refine ⟨by omega, ?_, ?_, ?_⟩
  · rw [ht, dval_snoc, ← h.val]
  · have := h.bd; rw [Nat.pow_succ]; omega
  · rw [ht]
    intro y hy
    rcases List.mem_append.1 hy with hy | hy
    · exact h.dig y hy
    · simp at hy; subst hy; exact ⟨h1, h2⟩
theorem valI_pow {l : List UInt8} {k n : Nat} (h : ValI l k n) (hl : l.length ≤ 12) : n < 1000000000000 := by
  have h1 := h.bd
  have h2 : 10 ^ k ≤ 10 ^ 12 := Nat.pow_le_pow_right (by omega) (by have := h.len; omega)
  have h3 : (10 : Nat) ^ 12 = 1000000000000 := by decide
  omega
theorem valS_bad {l : List UInt8} {k : Nat} {x : UInt8} (hx : l[k]? = some x) (hb : ¬ (48 ≤ x.toNat ∧ x.toNat ≤ 57)) : valS l = none := by
  rw [valS, if_neg]
  rintro ⟨_, _, h, _⟩
  exact hb (h x (List.mem_of_getElem? hx))
theorem valS_len {l : List UInt8} (h : ¬ (1 ≤ l.length ∧ l.length ≤ 12)) : valS l = none := by
  rw [valS, if_neg]
  rintro ⟨h1, h2, _⟩
  exact h ⟨h1, h2⟩
theorem valS_end {l : List UInt8} {n : Nat} (h : ValI l l.length n) (h1 : 1 ≤ l.length) (h2 : l.length ≤ 12) : valS l = if Lib.decDigits n = l then some (n : Int) else none := by
  have hv := h.val
  have hd := h.dig
  rw [List.take_of_length_le (Nat.le_refl _)] at hv hd
  rw [valS, ← hv]
  by_cases he : Lib.decDigits n = l
  · rw [if_pos ⟨h1, h2, hd, he⟩, if_pos he]
  · rw [if_neg (fun h => he h.2.2.2), if_neg he]

/-- a number, perhaps none -/
def RetVal (w : World) (o : Option Int) (e : Ending) (w' : World) : Prop :=
  ∃ v : Int, e = .returned (.tuple #[.int .i64 v, .bool o.isSome]) ∧ (∀ n, o = some n → v = n) ∧ (0 ≤ v ∧ v < 1000000000000) ∧ Below w.heap.size w w'
theorem retVal_no {w w' : World} {o : Option Int} (h : o = none) {v : Int} (h0 : 0 ≤ v) (h1 : v < 1000000000000) (hb : Below w.heap.size w w') : RetVal w o (.returned (.tuple #[.int .i64 v, .bool false])) w' := by
  subst h
  exact ⟨v, rfl, fun n e => (by cases e), ⟨h0, h1⟩, hb⟩

set_option maxRecDepth 100000 in
set_option maxHeartbeats 1000000 in
theorem l01Value_any (s : ByteArray) (w : World) (hs : s.size ≤ 1048576) :
    Calls Tryz.prog 94 #[.string s] w (RetVal w (valS s.data.toList)) := by
  have hsz : s.data.toList.length = s.size := rfl
  by_cases h1 : s.size < 1
  · have hi1 : ((s.size : Nat) : Int) < 1 := by omega
    have HN := Lib.hid (valS_len (l := s.data.toList) (by omega))
    go_enter Tryz.func94, Tryz.ntmps94
    go_wp2_with fail
    go_ret2
    exact retVal_no HN.out (by omega) (by omega) (Below.refl _ _)
  by_cases h2 : 12 < s.size
  · have hi1 : ¬ ((s.size : Nat) : Int) < 1 := by omega
    have hi2 : (12 : Int) < ((s.size : Nat) : Int) := by omega
    have HN := Lib.hid (valS_len (l := s.data.toList) (by omega))
    go_enter Tryz.func94, Tryz.ntmps94
    go_wp2_with fail
    go_ret2
    exact retVal_no HN.out (by omega) (by omega) (Below.refl _ _)
  have hi1 : ¬ ((s.size : Nat) : Int) < 1 := by omega
  have hi2 : ¬ (12 : Int) < ((s.size : Nat) : Int) := by omega
  go_enter Tryz.func94, Tryz.ntmps94
  go_wp2_with fail
  go_loopw [4, 5] (fun v i wr => ∃ (k n : Nat), i = .int .i64 k ∧ v = .int .i64 n ∧ ValI s.data.toList k n ∧ Below w.heap.size w wr) (fun _ i _ => s.size - (intOf i).toNat)
  case atStart => exact ⟨0, 0, rfl, rfl, valI_start _, Below.refl _ _⟩
  case round =>
    obtain ⟨k, n, rfl, rfl, hv, hb⟩ := hrel
    have HV := Lib.hid hv
    have HB := Lib.hid hb
    have hn := valI_pow hv (by omega)
    have hkl := hv.len
    clear hv hb
    by_cases hlt : k < s.size
    · obtain ⟨x, hx⟩ : ∃ x, s[k] = x := ⟨_, rfl⟩
      have hxk : Hid (s.data.toList[k]? = some x) := Lib.hid (by
        rw [List.getElem?_eq_getElem (by omega), ← hx]
        rfl)
      by_cases hx1 : x.toNat < 48
      · have hx2 : ((x.toNat : Nat) : Int) < 48 := by omega
        have HN := Lib.hid (valS_bad hxk.out (by omega))
        go_wp2_with fail
        go_ret2
        exact retVal_no HN.out (by omega) (by omega) HB.out
      · by_cases hx3 : 57 < x.toNat
        · have hx2 : ¬ ((x.toNat : Nat) : Int) < 48 := by omega
          have hx4 : (57 : Int) < ((x.toNat : Nat) : Int) := by omega
          have HN := Lib.hid (valS_bad hxk.out (by omega))
          go_wp2_with fail
          go_ret2
          exact retVal_no HN.out (by omega) (by omega) HB.out
        · have hx2 : ¬ ((x.toNat : Nat) : Int) < 48 := by omega
          have hx4 : ¬ (57 : Int) < ((x.toNat : Nat) : Int) := by omega
          have e1 : IntKind.u8.wrap ((x.toNat : Int) - 48) = (x.toNat : Int) - 48 := IntWalk.u8_in _ (by omega)
          have e2 : IntKind.i64.wrap (10 * (n : Int)) = 10 * (n : Int) := IntWalk.i64_in _ (by omega)
          have e3 : IntKind.i64.wrap ((x.toNat : Int) - 48) = (x.toNat : Int) - 48 := IntWalk.i64_in _ (by omega)
          have e4 : IntKind.i64.wrap (10 * (n : Int) + ((x.toNat : Int) - 48)) = 10 * (n : Int) + ((x.toNat : Int) - 48) := IntWalk.i64_in _ (by omega)
          have HS := Lib.hid (valI_step HV.out hxk.out (by omega) (by omega))
          go_wp2_with fail
          exact ⟨⟨k + 1, 10 * n + (x.toNat - 48), by go_num, by congr 1; omega, HS.out, HB.out⟩, by simp [intOf]; omega⟩
    · obtain rfl : k = s.size := by omega
      go_wp2_with fail
      refine (l01Dec_any n n _ (by omega) (by omega) (by omega)).mono ?_
      rintro e w1 ⟨rfl, hb1⟩
      have HB1 := Lib.hid (bt0 HB.out hb1 (Nat.le_refl _))
      have HVE := Lib.hid (valS_end (l := s.data.toList) HV.out (by omega) (by omega))
      clear hb1
      by_cases he : Lib.itoa (n : Int) = s.data.toList
      · have e2 : ((decB n).toList == s.toList) = true := by rw [decB_eq he]; simp
        rw [Lib.itoa_nonneg] at he
        have HE := Lib.hid (HVE.out.trans (if_pos he))
        clear he
        go_wp2_with fail
        go_ret2
        rw [HE.out]
        exact ⟨n, rfl, fun m hm => Option.some.inj hm, ⟨by omega, by omega⟩, HB1.out⟩
      · have e2 : ((decB n).toList == s.toList) = false := by
          rw [Bool.eq_false_iff]; intro h
          rw [beq_iff_eq, ByteArray.toList_eq, ByteArray.toList_eq] at h
          exact he (by rw [← h]; simp [decB])
        rw [Lib.itoa_nonneg] at he
        have HE := Lib.hid (HVE.out.trans (if_neg he))
        clear he
        go_wp2_with fail
        go_ret2
        exact retVal_no HE.out (by omega) (by omega) HB1.out

end Go.Proofs.YtpilkgcghlfdmaaGreatDoor
namespace Go.Proofs.YtpilkgcghlfdmaaGreatDoor
open Go.RowKit

theorem leaves_append_room {P : Program} {o : Oper} {a : Act} {w : World} {R : Value → World → Prop} (s x : Operand) (t : TypeId) (ho : o.op = .call { callee := .builtin .append, args := #[s, x], argTypes := #[t, t] }) (v u : Value) (hs : a.eval s = v) (hx : a.eval x = u)
    (v' : Value) (w' : World) (hr : (Builtin.append_ #[t, t] o.type #[v, u]).run P w = .ok v' w') (hR : R v' w') : leaves P o a w R := by
  unfold leaves execOp
  simp only [ho, resolve, invoke, builtin, Sem.run_bind, Sem.run_pure, Result.andThen_ok, List.map_toArray, List.map_cons, List.map_nil, hs, hx, hr]
  exact hR

/-- the first m cells of row g are ys -/
def RowIs (W : World) (g cap m : Nat) (ys : List Int) : Prop := ∃ cur : Array Value, W.heap[g]? = some (.cells cur 2 (0, 0)) ∧ cur.size = cap ∧ cur.toList.take m = ys.map (Value.int .i64)
theorem RowIs.below {W W' : World} {g cap m B : Nat} {ys : List Int} (h : RowIs W g cap m ys) (hb : Below B W W') (hg : g < B) : RowIs W' g cap m ys := by
  obtain ⟨cur, h1, h2, h3⟩ := h
  exact ⟨cur, (hb.block g hg).trans h1, h2, h3⟩
theorem RowIs.lt {W : World} {g cap m : Nat} {ys : List Int} (h : RowIs W g cap m ys) : g < W.heap.size := by
  obtain ⟨cur, h1, _⟩ := h
  exact (Array.getElem?_eq_some_iff.1 h1).1
theorem RowIs.own {W : World} {g cap m : Nat} {ys : List Int} (h : RowIs W g cap m ys) (hl : ys.length = m) (hm : m ≤ cap) (hc : cap ≤ maxLen) : OwnI W g (.slice (some ⟨g, 0, none⟩) ys.length cap) ys := by
  obtain ⟨cur, h1, h2, h3⟩ := h
  exact ⟨by simp, Or.inr ⟨g, cap, cur, rfl, Nat.le_refl _, h1, by omega, hc, by omega, by rw [Nat.mul_one, hl]; exact h3⟩⟩
/-- one pixel more -/
theorem RowIs.more {W : World} {g cap m : Nat} {ys : List Int} {z : Int} {b : Nat} (h : RowIs W g cap m ys) (hm : m < cap) (hz : W.cell? ⟨b, 0, none⟩ = some (.int .i64 z)) (ty : TypeId) :
    ∃ W', (Builtin.append_ #[35, 35] ty #[.slice (some ⟨g, 0, none⟩) m cap, .slice (some ⟨b, 0, none⟩) 1 1]).run Tryz.prog W = .ok (.slice (some ⟨g, 0, none⟩) (m + 1) cap) W' ∧ RowIs W' g cap m ys ∧ RowIs W' g cap (m + 1) (ys ++ [z]) ∧ W.grownBy W' (some g) := by
  obtain ⟨cur, h1, h2, h3⟩ := h
  obtain ⟨i0, hi, y0, y1, y2⟩ := info_parts infoI
  have hr := run_append_room (P := Tryz.prog) W 35 ty 2 i0 Tryz.underlying35 hi g m cap cur h1 ⟨b, 0, none⟩ 1 1 [.int .i64 z] (by rw [y1]; rfl)
    (fun j u hj => by
      match j, hj with
      | 0, hj => simp at hj; subst hj; simpa [Addr.add] using hz
      | j + 1, hj => simp at hj) (fun u hu => by rw [List.mem_singleton] at hu; subst hu; rfl) hm (by rw [y1]; simp; omega)
  rw [y1, Nat.mul_one] at hr
  have hlen : cur.toList.length = cap := by simpa using h2
  have hrow := setRow_heap W g cur (cur.toList.take m ++ [Value.int .i64 z] ++ cur.toList.drop (m + 1)).toArray 2 (0, 0) h1
  have hsz : (cur.toList.take m ++ [Value.int .i64 z] ++ cur.toList.drop (m + 1)).toArray.size = cap := by
    simp only [List.size_toArray, List.length_append, List.length_take, List.length_drop, List.length_singleton]
    omega
  have htl : (cur.toList.take m).length = m := by rw [List.length_take]; omega
  refine ⟨_, hr, ⟨_, hrow, hsz, ?_⟩, ⟨_, hrow, hsz, ?_⟩, ⟨rfl, rfl, rfl, by simp, fun k _ hk => setRow_other W g k _ (fun e => hk (by rw [e]))⟩⟩
  · rw [List.append_assoc, List.take_append_of_le_length (by omega), List.take_of_length_le (by omega)]
    exact h3
  · rw [List.take_append_of_le_length (by simp; omega), List.take_of_length_le (by simp; omega), h3, List.map_append]
    rfl

/-- a raster is handed back -/
def RetRas (w : World) (n m : Int) (xs : List Int) (e : Ending) (w' : World) : Prop :=
  ∃ a c, e = .returned (.agg #[.int .i64 n, .int .i64 m, .slice a xs.length c]) ∧ OwnI w' w.heap.size (.slice a xs.length c) xs ∧ Below w.heap.size w w'
/-- the first t pixels -/
def pix (F : Nat → Nat → Int) (m t : Nat) : List Int := (List.range t).map fun i => F (i / m) (i % m)
theorem pix_len (F : Nat → Nat → Int) (m t : Nat) : (pix F m t).length = t := by simp [pix]
theorem pix_succ {F : Nat → Nat → Int} {m k j : Nat} (hj : j < m) : pix F m (k * m + j + 1) = pix F m (k * m + j) ++ [F k j] := by
  unfold pix
  have h1 : (k * m + j) / m = k := by rw [Nat.mul_comm, Nat.mul_add_div (by omega), Nat.div_eq_of_lt hj]; omega
  have h2 : (k * m + j) % m = j := by rw [Nat.mul_comm, Nat.mul_add_mod, Nat.mod_eq_of_lt hj]
  rw [List.range_succ, List.map_append]
  simp [h1, h2]

/-- while a raster is made -/
def RasAt (w W : World) (n m : Int) (cap t : Nat) (ys : List Int) : Prop :=
  W.heap[w.heap.size]? = some (.cells #[.int .i64 0, .int .i64 0, .slice none 0 0] 241 (0, 0)) ∧ W.heap[w.heap.size + 2]? = some (.cells #[.int .i64 n, .int .i64 m, .slice (some ⟨w.heap.size + 1, 0, none⟩) t cap] 241 (0, 0)) ∧
    RowIs W (w.heap.size + 1) cap t ys ∧ Below w.heap.size w W
/-- what a round keeps -/
def KeepR (g cap m : Nat) (ys : List Int) (W W' : World) : Prop := W.grownBy W' (some g) ∧ (RowIs W g cap m ys → RowIs W' g cap m ys)
theorem keepR_below {g cap m : Nat} {ys : List Int} {W W' : World} (hb : Below W.heap.size W W') : KeepR g cap m ys W W' :=
  ⟨⟨hb.os, hb.tape, hb.output, hb.size, fun i hi _ => hb.block i hi⟩, fun h => h.below hb h.lt⟩
def sR (g cap m : Nat) (ys : List Int) (p : Value → Prop) : Sp (KeepR g cap m ys) := ⟨fun v _ => p v, fun _ _ _ _ h => h⟩
/-- a new cell that holds z -/
def sCell (g cap m : Nat) (ys : List Int) (z : Int) : Sp (KeepR g cap m ys) := ⟨fun v W => ∃ b, v = .slice (some ⟨b, 0, none⟩) 1 1 ∧ b ≠ g ∧ W.cell? ⟨b, 0, none⟩ = some (.int .i64 z), fun _ W _ hk ⟨b, hv, hne, hc⟩ => ⟨b, hv, hne, by
  rw [World.cell?_of_block (w := W) (a := ⟨b, 0, none⟩) (hk.1.block b (lt_of_cell hc) (fun e => hne (Option.some.inj e)))]
  exact hc⟩⟩
/-- the row with a pixel more -/
def sRow (g cap m : Nat) (ys : List Int) : Sp (KeepR g cap m ys) := ⟨fun v W => v = .slice (some ⟨g, 0, none⟩) m cap ∧ RowIs W g cap m ys, fun _ _ _ hk ⟨hv, hr⟩ => ⟨hv, hk.2 hr⟩⟩
theorem RasAt.below {w W W' : World} {n m : Int} {cap t : Nat} {ys : List Int} (h : RasAt w W n m cap t ys) (hb : Below W.heap.size W W') : RasAt w W' n m cap t ys :=
  ⟨(hb.block _ (Array.getElem?_eq_some_iff.1 h.1).1).trans h.1, (hb.block _ (Array.getElem?_eq_some_iff.1 h.2.1).1).trans h.2.1, h.2.2.1.below hb h.2.2.1.lt, bt0 h.2.2.2 hb (Nat.le_refl _)⟩
theorem RasAt.row {w W W' : World} {n m : Int} {cap t : Nat} {ys : List Int} (h : RasAt w W n m cap t ys) (hg : W.grownBy W' (some (w.heap.size + 1))) (hr : RowIs W' (w.heap.size + 1) cap t ys) : RasAt w W' n m cap t ys :=
  ⟨(hg.block _ (Array.getElem?_eq_some_iff.1 h.1).1 (fun e => by have := Option.some.inj e; omega)).trans h.1, (hg.block _ (Array.getElem?_eq_some_iff.1 h.2.1).1 (fun e => by have := Option.some.inj e; omega)).trans h.2.1, hr, h.2.2.2.trans (below_of_grownBy hg h.2.2.2.size (fun k e => by have := Option.some.inj e; omega))⟩
theorem rr_same {w W : World} {n m : Int} {cap t q : Nat} {ys zs : List Int} {s : Sp (KeepR (w.heap.size + 1) cap q zs)} {v : Value} (h : RasAt w W n m cap t ys) (hs : s.holds v W) : RsR (fun W => RasAt w W n m cap t ys) s W v W := ⟨h, keepR_below (Below.refl _ _), hs⟩
theorem rr_below {w W W' : World} {n m : Int} {cap t q : Nat} {ys zs : List Int} {s : Sp (KeepR (w.heap.size + 1) cap q zs)} {v : Value} (h : RasAt w W n m cap t ys) (hb : Below W.heap.size W W') (hs : s.holds v W') : RsR (fun W => RasAt w W n m cap t ys) s W v W' := ⟨h.below hb, keepR_below hb, hs⟩

/-- the grown slice is stored back -/
theorem RasAt.store {w W : World} {n m : Int} {cap t t' : Nat} {ys ys' : List Int} (h : RasAt w W n m cap t ys) (hr : RowIs W (w.heap.size + 1) cap t' ys') :
    RasAt w (W.setCell ⟨w.heap.size + 2, 2, none⟩ (.slice (some ⟨w.heap.size + 1, 0, none⟩) t' cap)) n m cap t' ys' := by
  have hg := grownBy_set W (w.heap.size + 2) 2 (.slice (some ⟨w.heap.size + 1, 0, none⟩) t' cap)
  refine ⟨(hg.block _ (Array.getElem?_eq_some_iff.1 h.1).1 (fun e => by have := Option.some.inj e; omega)).trans h.1, src_set h.2.1 2 _, ?_, Below.setCell h.2.2.2 (by dsimp only; omega) _⟩
  obtain ⟨cur, h1, h2, h3⟩ := hr
  exact ⟨cur, (hg.block _ (Array.getElem?_eq_some_iff.1 h1).1 (fun e => by have := Option.some.inj e; omega)).trans h1, h2, h3⟩
end Go.Proofs.YtpilkgcghlfdmaaGreatDoor
namespace Go.Proofs.YtpilkgcghlfdmaaGreatDoor
open Go.RowKit

/-- are the fields of a damage as described for its kind -/
def fineB (k r c t w : Int) : Bool :=
  if k = 1 then inB r 0 400 && inB c 0 400 && inB t 0 400 && (w == 0)
  else if k = 2 then inB r 0 400 && inB c 0 400 && inB t 1 400 && inB w 1 400
  else if k = 3 then (r == 0) && (c == 0) && inB t 1 400 && inB w (-400) 400
  else if k = 4 then inB r 0 400 && inB t 0 400 && (c == 0) && (w == 0)
  else if k = 5 then (r == 0) && (c == 0) && (w == 0) && inB t 0 256
  else false
/-- a valid damage -/
def dmOk (k r c t w g : Int) : Bool := fineB k r c t w && inB g 0 255
theorem fine1 {r c t w : Int} : fineB 1 r c t w = (inB r 0 400 && inB c 0 400 && inB t 0 400 && (w == 0)) := by simp [fineB]
theorem fine2 {r c t w : Int} : fineB 2 r c t w = (inB r 0 400 && inB c 0 400 && inB t 1 400 && inB w 1 400) := by simp [fineB]
theorem fine3 {r c t w : Int} : fineB 3 r c t w = ((r == 0) && (c == 0) && inB t 1 400 && inB w (-400) 400) := by simp [fineB]
theorem fine4 {r c t w : Int} : fineB 4 r c t w = (inB r 0 400 && inB t 0 400 && (c == 0) && (w == 0)) := by simp [fineB]
theorem fine5 {r c t w : Int} : fineB 5 r c t w = ((r == 0) && (c == 0) && (w == 0) && inB t 0 256) := by simp [fineB]
theorem fine0 {k r c t w : Int} (h : k < 1 ∨ 5 < k) : fineB k r c t w = false := by
  unfold fineB
  rw [if_neg (by omega), if_neg (by omega), if_neg (by omega), if_neg (by omega), if_neg (by omega)]
theorem dm_bounds {k r c t w g : Int} (h : dmOk k r c t w g = true) : (1 ≤ k ∧ k ≤ 5) ∧ (0 ≤ r ∧ r ≤ 400) ∧ (0 ≤ c ∧ c ≤ 400) ∧ (0 ≤ t ∧ t ≤ 400) ∧ (-400 ≤ w ∧ w ≤ 400) ∧ (0 ≤ g ∧ g ≤ 255) ∧ (k = 3 → 1 ≤ t) ∧ (k = 5 → t ≤ 256) := by
  unfold dmOk at h
  rw [Bool.and_eq_true, inB_iff] at h
  obtain ⟨h1, h2⟩ := h
  by_cases hk : k < 1 ∨ 5 < k
  · rw [fine0 hk] at h1; cases h1
  · have : k = 1 ∨ k = 2 ∨ k = 3 ∨ k = 4 ∨ k = 5 := by omega
    rcases this with rfl | rfl | rfl | rfl | rfl
    · simp only [fine1, Bool.and_eq_true, inB_iff, beq_iff_eq] at h1; omega
    · simp only [fine2, Bool.and_eq_true, inB_iff] at h1; omega
    · simp only [fine3, Bool.and_eq_true, inB_iff, beq_iff_eq] at h1; omega
    · simp only [fine4, Bool.and_eq_true, inB_iff, beq_iff_eq] at h1; omega
    · simp only [fine5, Bool.and_eq_true, inB_iff, beq_iff_eq] at h1; omega

/-- does a blot or a scratch touch a pixel -/
def touchB (k r c t w y x : Int) : Bool := if k = 1 then decide ((y - r) * (y - r) + (x - c) * (x - c) ≤ t * t) else inB y r (r + t - 1) && inB x c (c + w - 1)
theorem touch1 {r c t w y x : Int} : touchB 1 r c t w y x = decide ((y - r) * (y - r) + (x - c) * (x - c) ≤ t * t) := by simp [touchB]
theorem touch2 {r c t w y x : Int} : touchB 2 r c t w y x = (inB y r (r + t - 1) && inB x c (c + w - 1)) := by simp [touchB]

/-- a pixel behind a damage that is no noise -/
def dpix (k r c t w g : Int) (m : Nat) (xs : List Int) (y x : Nat) : Int :=
  if k = 3 then (if inB ((x : Int) - (y : Int) * w / t) 0 ((m : Int) - 1) = true then xs.getD (y * m + ((x : Int) - (y : Int) * w / t).toNat) 0 else g)
  else if k = 5 then (xs.getD (y * m + x) 0 * t + g * (256 - t)) / 256
  else if touchB k r c t w y x = true then g else xs.getD (y * m + x) 0
/-- rounds of noise -/
def nz (g : Int) (N : Nat) (p : Int × List Int) : Nat → Int × List Int
  | 0 => p
  | t + 1 => ((75 * (nz g N p t).1 + 74) % 65537, (nz g N p t).2.set (((75 * (nz g N p t).1 + 74) % 65537) % (N : Int)).toNat g)
/-- the pixels behind a damage -/
def dmgL (k r c t w g : Int) (n m : Nat) (xs : List Int) : List Int :=
  if k = 4 then (nz g (n * m) (r, xs) t.toNat).2 else pix (dpix k r c t w g m xs) m (n * m)

theorem nz_len {g : Int} {N : Nat} {p : Int × List Int} : ∀ t, (nz g N p t).2.length = p.2.length
  | 0 => rfl
  | t + 1 => by simp [nz, nz_len t]
theorem nz_x {g : Int} {N : Nat} {p : Int × List Int} (h : 0 ≤ p.1 ∧ p.1 ≤ 65536) : ∀ t, 0 ≤ (nz g N p t).1 ∧ (nz g N p t).1 ≤ 65536
  | 0 => h
  | t + 1 => by have := nz_x (g := g) (N := N) h t; simp only [nz]; omega
def Greys (xs : List Int) : Prop := ∀ x ∈ xs, 0 ≤ x ∧ x ≤ 255
theorem greys_set {xs : List Int} {i : Nat} {g : Int} (h : Greys xs) (hg : 0 ≤ g ∧ g ≤ 255) : Greys (xs.set i g) := fun x hx => by
  rcases List.mem_or_eq_of_mem_set hx with h1 | h1
  · exact h x h1
  · subst h1; exact hg
theorem nz_greys {g : Int} {N : Nat} {p : Int × List Int} (h : Greys p.2) (hg : 0 ≤ g ∧ g ≤ 255) : ∀ t, Greys (nz g N p t).2
  | 0 => h
  | t + 1 => greys_set (nz_greys h hg t) hg
theorem getD_grey {xs : List Int} (h : Greys xs) (i : Nat) : 0 ≤ xs.getD i 0 ∧ xs.getD i 0 ≤ 255 := by
  rw [List.getD_eq_getElem?_getD]
  by_cases hi : i < xs.length
  · rw [List.getElem?_eq_getElem hi]; exact h _ (List.getElem_mem hi)
  · rw [List.getElem?_eq_none (by omega)]; simp
theorem fade_mid {v t g : Int} (hv : 0 ≤ v ∧ v ≤ 255) (ht : 0 ≤ t ∧ t ≤ 256) (hg : 0 ≤ g ∧ g ≤ 255) : 0 ≤ v * t ∧ v * t ≤ 255 * t ∧ 0 ≤ g * (256 - t) ∧ g * (256 - t) ≤ 255 * (256 - t) :=
  ⟨Int.mul_nonneg hv.1 ht.1, Int.mul_le_mul_of_nonneg_right hv.2 ht.1, Int.mul_nonneg hg.1 (by omega), Int.mul_le_mul_of_nonneg_right hg.2 (by omega)⟩
theorem fade_grey {v t g : Int} (hv : 0 ≤ v ∧ v ≤ 255) (ht : 0 ≤ t ∧ t ≤ 256) (hg : 0 ≤ g ∧ g ≤ 255) : 0 ≤ (v * t + g * (256 - t)) / 256 ∧ (v * t + g * (256 - t)) / 256 ≤ 255 := by
  obtain ⟨h1, h2, h3, h4⟩ := fade_mid hv ht hg
  generalize v * t = a at *
  generalize g * (256 - t) = b at *
  omega
theorem dpix_grey {k r c t w g : Int} {m : Nat} {xs : List Int} (hd : dmOk k r c t w g = true) (h : Greys xs) (y x : Nat) : 0 ≤ dpix k r c t w g m xs y x ∧ dpix k r c t w g m xs y x ≤ 255 := by
  obtain ⟨_, _, _, h4, _, h6, _, h8⟩ := dm_bounds hd
  unfold dpix
  by_cases h3 : k = 3
  · rw [if_pos h3]
    split
    · exact getD_grey h _
    · exact h6
  · rw [if_neg h3]
    by_cases h5 : k = 5
    · rw [if_pos h5]
      exact fade_grey (getD_grey h _) ⟨h4.1, h8 h5⟩ h6
    · rw [if_neg h5]
      split
      · exact h6
      · exact getD_grey h _
theorem dmgL_greys {k r c t w g : Int} {n m : Nat} {xs : List Int} (hd : dmOk k r c t w g = true) (h : Greys xs) : Greys (dmgL k r c t w g n m xs) := by
  obtain ⟨_, _, _, _, _, h6, _⟩ := dm_bounds hd
  unfold dmgL
  split
  · exact nz_greys h h6 _
  · intro x hx
    obtain ⟨i, _, rfl⟩ := List.mem_map.1 hx
    exact dpix_grey hd h _ _
theorem dmgL_len {k r c t w g : Int} {n m : Nat} {xs : List Int} (h : xs.length = n * m) : (dmgL k r c t w g n m xs).length = n * m := by
  unfold dmgL
  split
  · rw [nz_len]; exact h
  · exact pix_len _ _ _
theorem dmgL_pix {k r c t w g : Int} {n m : Nat} {xs : List Int} (h : k ≠ 4) : dmgL k r c t w g n m xs = pix (dpix k r c t w g m xs) m (n * m) := by rw [dmgL, if_neg h]
theorem dmgL_noise {r c t w g : Int} {n m : Nat} {xs : List Int} : dmgL 4 r c t w g n m xs = (nz g (n * m) (r, xs) t.toNat).2 := by rw [dmgL, if_pos rfl]

/-- a damage in six numbers -/
structure Dm where
  k : Int
  r : Int
  c : Int
  t : Int
  w : Int
  g : Int
def Dm.ok (d : Dm) : Bool := dmOk d.k d.r d.c d.t d.w d.g
def Dm.on (d : Dm) (n m : Nat) (xs : List Int) : List Int := dmgL d.k d.r d.c d.t d.w d.g n m xs
/-- the pixels behind damages, one after the other -/
def dmsL (n m : Nat) (ds : List Dm) (xs : List Int) : List Int := ds.foldl (fun ys d => d.on n m ys) xs
theorem dmsL_snoc {n m : Nat} {ds : List Dm} {d : Dm} {xs : List Int} : dmsL n m (ds ++ [d]) xs = d.on n m (dmsL n m ds xs) := by simp [dmsL, List.foldl_append]
theorem dmsL_len {n m : Nat} {xs : List Int} (h : xs.length = n * m) : ∀ ds : List Dm, (dmsL n m ds xs).length = n * m
  | [] => h
  | d :: ds => dmsL_len (xs := d.on n m xs) (dmgL_len h) ds
theorem dmsL_greys {n m : Nat} {xs : List Int} (h : Greys xs) : ∀ ds : List Dm, (∀ d ∈ ds, d.ok = true) → Greys (dmsL n m ds xs)
  | [], _ => h
  | d :: ds, hd => dmsL_greys (xs := d.on n m xs) (dmgL_greys (hd d (by simp)) h) ds (fun e he => hd e (by simp [he]))

/-- a raster may have n rows and m columns -/
def sizeB (n m : Int) : Bool := inB n 1 400 && inB m 1 400 && decide (n * m ≤ 40000)
/-- a grey value -/
def greyB (x : Int) : Bool := inB x 0 255
/-- a raster of n rows and m columns -/
def rasOk (n m : Int) (xs : List Int) : Bool := sizeB n m && !((xs.length : Int) != n * m) && xs.all greyB
theorem size_bd {n m : Int} (h1 : inB n 1 400 = true) (h2 : inB m 1 400 = true) : 1 ≤ n * m ∧ n * m ≤ 160000 := by
  rw [inB_iff] at h1 h2
  have a : 1 * 1 ≤ n * m := Int.mul_le_mul h1.1 h2.1 (by omega) (by omega)
  have b : n * m ≤ 400 * 400 := Int.mul_le_mul h1.2 h2.2 (by omega) (by omega)
  omega
theorem greys_of {xs : List Int} (h : xs.all greyB = true) : Greys xs := fun x hx => inB_iff.1 (List.all_eq_true.1 h x hx)
theorem size_nat {n m : Int} (h : sizeB n m = true) : ∃ a b : Nat, n = a ∧ m = b ∧ 1 ≤ a ∧ a ≤ 400 ∧ 1 ≤ b ∧ b ≤ 400 ∧ a * b ≤ 40000 ∧ n * m = ((a * b : Nat) : Int) := by
  simp only [sizeB, Bool.and_eq_true, inB_iff, decide_eq_true_eq] at h
  obtain ⟨⟨h1, h2⟩, h3⟩ := h
  obtain ⟨a, rfl⟩ := Int.eq_ofNat_of_zero_le (show 0 ≤ n by omega)
  obtain ⟨b, rfl⟩ := Int.eq_ofNat_of_zero_le (show 0 ≤ m by omega)
  have e : (a : Int) * (b : Int) = ((a * b : Nat) : Int) := (Int.natCast_mul a b).symm
  rw [e] at h3
  exact ⟨a, b, rfl, rfl, by omega, by omega, by omega, by omega, by omega, e⟩
theorem ras_nat {n m : Int} {xs : List Int} (h : rasOk n m xs = true) : ∃ a b : Nat, n = a ∧ m = b ∧ 1 ≤ a ∧ a ≤ 400 ∧ 1 ≤ b ∧ b ≤ 400 ∧ a * b ≤ 40000 ∧ xs.length = a * b ∧ Greys xs := by
  simp only [rasOk, Bool.and_eq_true] at h
  obtain ⟨⟨h1, h2⟩, h3⟩ := h
  obtain ⟨a, b, rfl, rfl, q1, q2, q3, q4, q5, e⟩ := size_nat h1
  rw [e] at h2
  simp only [bne, Bool.not_not, beq_iff_eq] at h2
  exact ⟨a, b, rfl, rfl, q1, q2, q3, q4, q5, by omega, greys_of h3⟩
theorem size_of {a b : Nat} (h1 : 1 ≤ a) (h2 : a ≤ 400) (h3 : 1 ≤ b) (h4 : b ≤ 400) (h5 : a * b ≤ 40000) : sizeB a b = true := by
  simp only [sizeB, Bool.and_eq_true, inB_iff, decide_eq_true_eq]
  have e : (a : Int) * (b : Int) = ((a * b : Nat) : Int) := (Int.natCast_mul a b).symm
  rw [e]
  exact ⟨⟨by omega, by omega⟩, by omega⟩
theorem ras_of {a b : Nat} {xs : List Int} (h1 : 1 ≤ a) (h2 : a ≤ 400) (h3 : 1 ≤ b) (h4 : b ≤ 400) (h5 : a * b ≤ 40000) (h6 : xs.length = a * b) (h7 : Greys xs) : rasOk a b xs = true := by
  have e : (a : Int) * (b : Int) = ((a * b : Nat) : Int) := (Int.natCast_mul a b).symm
  simp only [rasOk, size_of h1 h2 h3 h4 h5, e, h6, Bool.true_and, bne, Bool.not_not, beq_self_eq_true]
  exact List.all_eq_true.2 (fun x hx => inB_iff.2 (h7 x hx))
theorem five_or (k : Int) : k = 1 ∨ k = 2 ∨ k = 3 ∨ k = 4 ∨ k = 5 ∨ (k < 1 ∨ 5 < k) := by omega
theorem three (a b c : Bool) : a = false ∨ (a = true ∧ b = false) ∨ (a = true ∧ b = true ∧ c = false) ∨ (a = true ∧ b = true ∧ c = true) := by
  cases a <;> cases b <;> cases c <;> simp
theorem four (a b c d : Bool) : a = false ∨ (a = true ∧ b = false) ∨ (a = true ∧ b = true ∧ c = false) ∨ (a = true ∧ b = true ∧ c = true ∧ d = false) ∨ (a = true ∧ b = true ∧ c = true ∧ d = true) := by
  cases a <;> cases b <;> cases c <;> cases d <;> simp

end Go.Proofs.YtpilkgcghlfdmaaGreatDoor
namespace Go.Proofs.YtpilkgcghlfdmaaGreatDoor
open Go.RowKit

/-- the words of the kinds -/
def dBlot : List UInt8 := [98, 108, 111, 116]
def dScratch : List UInt8 := [115, 99, 114, 97, 116, 99, 104]
def dSkew : List UInt8 := [115, 107, 101, 119]
def dNoise : List UInt8 := [110, 111, 105, 115, 101]
def dFade : List UInt8 := [102, 97, 100, 101]

/-- the kind with a word; 0 if it is none -/
def kindOf (l : List UInt8) : Nat :=
  if l = dBlot then 1 else if l = dScratch then 2 else if l = dSkew then 3 else if l = dNoise then 4 else if l = dFade then 5 else 0

/-- the word and the numbers of a damage -/
def txtD (d : Dm) : List (List UInt8) :=
  if d.k = 1 then [dBlot, Lib.itoa d.r, Lib.itoa d.c, Lib.itoa d.t, Lib.itoa d.g]
  else if d.k = 2 then [dScratch, Lib.itoa d.r, Lib.itoa d.c, Lib.itoa d.t, Lib.itoa d.w, Lib.itoa d.g]
  else if d.k = 3 then [dSkew, Lib.itoa d.t, Lib.itoa d.w, Lib.itoa d.g]
  else if d.k = 4 then [dNoise, Lib.itoa d.r, Lib.itoa d.t, Lib.itoa d.g]
  else [dFade, Lib.itoa d.t, Lib.itoa d.g]

/-- the damage that is written in words -/
def rawD (k : Nat) (ns : List Int) : Option Dm :=
  match k, ns with
  | 1, [r, c, t, g] => some ⟨1, r, c, t, 0, g⟩
  | 2, [r, c, t, w, g] => some ⟨2, r, c, t, w, g⟩
  | 3, [t, w, g] => some ⟨3, 0, 0, t, w, g⟩
  | 4, [r, t, g] => some ⟨4, r, 0, t, 0, g⟩
  | 5, [t, g] => some ⟨5, 0, 0, t, 0, g⟩
  | _, _ => none

/-- all numbers of some words -/
def rnums : List (List UInt8) → Option (List Int)
  | [] => some []
  | h :: t => match rnum h with
    | none => none
    | some n => match rnums t with
      | none => none
      | some ns => some (n :: ns)

/-- the valid damage that is written in words -/
def rdOne (ws : List (List UInt8)) : Option Dm :=
  match ws with
  | [] => none
  | h :: t => match rnums t with
    | none => none
    | some ns => match rawD (kindOf h) ns with
      | none => none
      | some d => if d.ok = true then some d else none

theorem rnums_some : ∀ (ws : List (List UInt8)) (ns : List Int), rnums ws = some ns → ws = ns.map Lib.itoa
  | [], ns, h => by simp [rnums] at h; subst h; rfl
  | a :: t, ns, h => by
    rw [rnums] at h
    split at h
    · cases h
    · rename_i n hn
      split at h
      · cases h
      · rename_i ms hm
        cases h
        rw [List.map_cons, ← rnums_some t ms hm, ← rnum_some a n hn]

theorem rnums_itoa : ∀ ns : List Int, (∀ n ∈ ns, -9223372036854775808 ≤ n ∧ n ≤ 9223372036854775807) → rnums (ns.map Lib.itoa) = some ns
  | [], _ => rfl
  | n :: ns, h => by
    rw [List.map_cons, rnums, rnum_itoa n (h n (by simp)).1 (h n (by simp)).2, rnums_itoa ns (fun m hm => h m (by simp [hm]))]

theorem kind_word (l : List UInt8) : (kindOf l = 1 → l = dBlot) ∧ (kindOf l = 2 → l = dScratch) ∧ (kindOf l = 3 → l = dSkew) ∧ (kindOf l = 4 → l = dNoise) ∧ (kindOf l = 5 → l = dFade) := by
  unfold kindOf
  refine ⟨?_, ?_, ?_, ?_, ?_⟩ <;> (repeat' split) <;> intro h <;> first | assumption | omega

theorem rdOne_some (ws : List (List UInt8)) (d : Dm) (h : rdOne ws = some d) : d.ok = true ∧ ws = txtD d := by
  unfold rdOne at h
  split at h
  · cases h
  · rename_i a t
    split at h
    · cases h
    · rename_i ns hns
      have e := rnums_some t ns hns
      split at h
      · cases h
      · rename_i d' hd'
        split at h
        · rename_i hok
          cases h
          refine ⟨hok, ?_⟩
          have hk := kind_word a
          unfold rawD at hd'
          split at hd' <;> first | cases hd' | skip
          all_goals rename_i hka
          · rw [hk.1 hka, e]; rfl
          · rw [hk.2.1 hka, e]; rfl
          · rw [hk.2.2.1 hka, e]; rfl
          · rw [hk.2.2.2.1 hka, e]; rfl
          · rw [hk.2.2.2.2 hka, e]; rfl
        · cases h

theorem kind_words : kindOf dBlot = 1 ∧ kindOf dScratch = 2 ∧ kindOf dSkew = 3 ∧ kindOf dNoise = 4 ∧ kindOf dFade = 5 := by decide

theorem ok_parts (d : Dm) (h : d.ok = true) : (d.k = 1 ∧ d.w = 0) ∨ d.k = 2 ∨ (d.k = 3 ∧ d.r = 0 ∧ d.c = 0) ∨ (d.k = 4 ∧ d.c = 0 ∧ d.w = 0) ∨ (d.k = 5 ∧ d.r = 0 ∧ d.c = 0 ∧ d.w = 0) := by
  have hb := dm_bounds h
  obtain ⟨k, r, c, t, w, g⟩ := d
  simp only [Dm.ok, dmOk, Bool.and_eq_true] at h
  try dsimp only at hb
  try dsimp only
  have hk : k = 1 ∨ k = 2 ∨ k = 3 ∨ k = 4 ∨ k = 5 := by omega
  rcases hk with rfl | rfl | rfl | rfl | rfl
  · rw [fine1] at h; simp at h; omega
  · omega
  · rw [fine3] at h; simp at h; omega
  · rw [fine4] at h; simp at h; omega
  · rw [fine5] at h; simp at h; omega

theorem rdOne_cons (a : List UInt8) (ns : List Int) (d : Dm) (h : d.ok = true) (hn : ∀ n ∈ ns, -9223372036854775808 ≤ n ∧ n ≤ 9223372036854775807) (hr : rawD (kindOf a) ns = some d) : rdOne (a :: ns.map Lib.itoa) = some d := by
  simp only [rdOne, rnums_itoa ns hn, hr, h, if_true]

theorem rdOne_txt (d : Dm) (h : d.ok = true) : rdOne (txtD d) = some d := by
  have hb := dm_bounds h
  have hp := ok_parts d h
  obtain ⟨k, r, c, t, w, g⟩ := d
  try dsimp only at hb
  try dsimp only at hp
  rcases hp with ⟨rfl, rfl⟩ | rfl | ⟨rfl, rfl, rfl⟩ | ⟨rfl, rfl, rfl⟩ | ⟨rfl, rfl, rfl, rfl⟩
  · exact rdOne_cons dBlot [r, c, t, g] _ h (by simp; omega) (by rw [kind_words.1]; rfl)
  · exact rdOne_cons dScratch [r, c, t, w, g] _ h (by simp; omega) (by rw [kind_words.2.1]; rfl)
  · exact rdOne_cons dSkew [t, w, g] _ h (by simp; omega) (by rw [kind_words.2.2.1]; rfl)
  · exact rdOne_cons dNoise [r, t, g] _ h (by simp; omega) (by rw [kind_words.2.2.2.1]; rfl)
  · exact rdOne_cons dFade [t, g] _ h (by simp; omega) (by rw [kind_words.2.2.2.2]; rfl)

theorem txtD_free (d : Dm) : ∀ p ∈ txtD d, (32 : UInt8) ∉ p ∧ (59 : UInt8) ∉ p := by
  have ha : ∀ n, (32 : UInt8) ∉ Lib.itoa n ∧ (59 : UInt8) ∉ Lib.itoa n := fun n => ⟨itoa_no n 32 (by decide) (by decide), itoa_no n 59 (by decide) (by decide)⟩
  have hw : ((32 : UInt8) ∉ dBlot ∧ (59 : UInt8) ∉ dBlot) ∧ ((32 : UInt8) ∉ dScratch ∧ (59 : UInt8) ∉ dScratch) ∧ ((32 : UInt8) ∉ dSkew ∧ (59 : UInt8) ∉ dSkew) ∧ ((32 : UInt8) ∉ dNoise ∧ (59 : UInt8) ∉ dNoise) ∧ ((32 : UInt8) ∉ dFade ∧ (59 : UInt8) ∉ dFade) := by decide
  obtain ⟨w1, w2, w3, w4, w5⟩ := hw
  intro p hp
  unfold txtD at hp
  repeat' split at hp
  all_goals
    simp only [List.mem_cons, List.not_mem_nil, or_false] at hp
    rcases hp with rfl | rfl | rfl | rfl | rfl | rfl <;> first | assumption | exact ha _

theorem txtD_ne (d : Dm) : txtD d ≠ [] := by unfold txtD; repeat' split
                                             all_goals simp

/-- the text of a damage -/
def lineD (d : Dm) : List UInt8 := glue 32 (txtD d)
/-- the text of damages -/
def textD (ds : List Dm) : List UInt8 := glue 59 (ds.map lineD)

theorem cut_line (d : Dm) : cut 32 (lineD d) = txtD d := cut_glue 32 _ (txtD_ne d) (fun p hp => (txtD_free d p hp).1)

theorem glue_no (b c : UInt8) (hbc : c ≠ b) : ∀ ps : List (List UInt8), (∀ p ∈ ps, c ∉ p) → c ∉ glue b ps
  | [] => fun _ => by simp [glue]
  | [p] => fun h => h p (by simp)
  | p :: q :: t => fun h => by
    rw [glue_cons _ _ _ (by simp)]
    have := glue_no b c hbc (q :: t) (fun x hx => h x (by simp [hx]))
    have := h p (by simp)
    simp [*]

theorem cut_text (ds : List Dm) (h : ds ≠ []) : cut 59 (textD ds) = ds.map lineD :=
  cut_glue 59 _ (by simpa using h) (fun p hp => by
    obtain ⟨d, _, rfl⟩ := List.mem_map.1 hp
    exact glue_no 32 59 (by decide) _ (fun q hq => (txtD_free d q hq).2))

/-- the valid damages that some texts are -/
def rdAll : List (List UInt8) → Option (List Dm)
  | [] => some []
  | p :: t => match rdOne (cut 32 p) with
    | none => none
    | some d => match rdAll t with
      | none => none
      | some ds => some (d :: ds)

theorem rdAll_some : ∀ (ps : List (List UInt8)) (ds : List Dm), rdAll ps = some ds → ps = ds.map lineD ∧ ∀ d ∈ ds, d.ok = true
  | [], ds, h => by simp [rdAll] at h; subst h; simp
  | p :: t, ds, h => by
    rw [rdAll] at h
    split at h
    · cases h
    · rename_i d hd
      split at h
      · cases h
      · rename_i es he
        cases h
        obtain ⟨hok, hc⟩ := rdOne_some _ _ hd
        obtain ⟨h1, h2⟩ := rdAll_some t es he
        have hp : p = lineD d := by rw [← glue_cut 32 p, hc, lineD]
        refine ⟨by rw [List.map_cons, ← h1, ← hp], ?_⟩
        intro e hm
        rcases List.mem_cons.1 hm with rfl | hm
        · exact hok
        · exact h2 e hm

theorem rdAll_lines : ∀ ds : List Dm, (∀ d ∈ ds, d.ok = true) → rdAll (ds.map lineD) = some ds
  | [], _ => rfl
  | d :: ds, h => by
    rw [List.map_cons, rdAll, cut_line, rdOne_txt d (h d (by simp)), rdAll_lines ds (fun e he => h e (by simp [he]))]

/-- the damages whose text a text of one byte or more is, as the program reads it -/
def rdText (s : List UInt8) : Option (List Dm) := if 20 < (cut 59 s).length then none else rdAll (cut 59 s)

theorem rdText_iff (s : List UInt8) (ds : List Dm) : rdText s = some ds ↔ ds ≠ [] ∧ ds.length ≤ 20 ∧ (∀ d ∈ ds, d.ok = true) ∧ s = textD ds := by
  unfold rdText
  constructor
  · intro h
    split at h
    · cases h
    · rename_i hl
      obtain ⟨h1, h2⟩ := rdAll_some _ _ h
      have hlen : (cut 59 s).length = ds.length := by rw [h1]; simp
      have hs : s = textD ds := by rw [← glue_cut 59 s, h1, textD]
      refine ⟨?_, by omega, h2, hs⟩
      intro e
      have := cut_ne 59 s
      rw [h1, e] at this
      exact this rfl
  · rintro ⟨h0, hl, hok, rfl⟩
    rw [cut_text ds h0, rdAll_lines ds hok, if_neg (by simp; omega)]

end Go.Proofs.YtpilkgcghlfdmaaGreatDoor
namespace Go.Proofs.YtpilkgcghlfdmaaGreatDoor
open Go.RowKit

/-- the same, perhaps behind a sign -/
def sgnS : List UInt8 → Option Int
  | [] => valS []
  | x :: r => if x = 45 then (match valS r with | none => none | some n => some (-n)) else valS (x :: r)

theorem sgnS_itoa (n : Int) (h0 : -1000000000000 < n) (h1 : n < 1000000000000) : sgnS (Lib.itoa n) = some n := by
  by_cases hn : n < 0
  · have e : Lib.itoa n = 45 :: Lib.decDigits n.natAbs := by rw [Lib.itoa, if_pos hn]
    rw [e, sgnS, if_pos rfl, valS_dec _ (by omega)]
    simp only []; congr 1; omega
  · have e : Lib.itoa n = Lib.decDigits n.toNat := by rw [Lib.itoa, if_neg hn]
    rw [e]
    have hd := dec_digit n.toNat
    have hv := valS_dec n.toNat (by omega)
    cases he : Lib.decDigits n.toNat with
    | nil => exact absurd he (decDigits_ne _)
    | cons c r =>
      rw [he] at hd hv
      have hc := hd c (by simp)
      have : ¬ c = 45 := by intro e; rw [e] at hc; simp at hc
      rw [sgnS, if_neg this, hv]
      congr 1; omega

/-- the numbers of the fields that a kind has; 0 for the others -/
def spNums : List Bool → List (List UInt8) → Option (List Int)
  | [], _ => some []
  | false :: f, ws => match spNums f ws with | none => none | some ns => some (0 :: ns)
  | true :: _, [] => none
  | true :: f, a :: ws => match sgnS a with
    | none => none
    | some n => match spNums f ws with | none => none | some ns => some (n :: ns)

/-- the fields of a kind -/
def spFl (k : Nat) : List Bool :=
  if k = 1 then [true, true, true, false, true] else if k = 2 then [true, true, true, true, true] else if k = 3 then [false, false, true, true, true]
  else if k = 4 then [true, false, true, false, true] else [false, false, true, false, true]

/-- the reference's reading of one damage -/
def spOne (ws : List (List UInt8)) : Option Dm :=
  match ws with
  | [] => none
  | h :: t => if kindOf h = 0 then none else match spNums (spFl (kindOf h)) t with
    | some [r, c, t, w, g] => some ⟨kindOf h, r, c, t, w, g⟩
    | _ => none

theorem spOne_txt (d : Dm) (h : d.ok = true) : spOne (txtD d) = some d := by
  have hb := dm_bounds h
  have hp := ok_parts d h
  obtain ⟨k, r, c, t, w, g⟩ := d
  try dsimp only at hb
  try dsimp only at hp
  have sr := sgnS_itoa r (by omega) (by omega)
  have sc := sgnS_itoa c (by omega) (by omega)
  have st := sgnS_itoa t (by omega) (by omega)
  have sw := sgnS_itoa w (by omega) (by omega)
  have sg := sgnS_itoa g (by omega) (by omega)
  obtain ⟨k1, k2, k3, k4, k5⟩ := kind_words
  rcases hp with ⟨rfl, rfl⟩ | rfl | ⟨rfl, rfl, rfl⟩ | ⟨rfl, rfl, rfl⟩ | ⟨rfl, rfl, rfl, rfl⟩ <;>
    simp [txtD, spOne, k1, k2, k3, k4, k5, spFl, spNums, sr, sc, st, sw, sg]

/-- the reference's reading of texts -/
def spAll : List (List UInt8) → Option (List Dm)
  | [] => some []
  | p :: t => match spOne (cut 32 p) with
    | none => none
    | some d => match spAll t with
      | none => none
      | some ds => some (d :: ds)

theorem spAll_len : ∀ (ps : List (List UInt8)) (ds : List Dm), spAll ps = some ds → ds.length = ps.length
  | [], ds, h => by simp [spAll] at h; subst h; rfl
  | p :: t, ds, h => by
    rw [spAll] at h
    split at h
    · cases h
    · split at h
      · cases h
      · rename_i es he
        cases h
        simp [spAll_len t es he]

theorem spAll_lines : ∀ ds : List Dm, (∀ d ∈ ds, d.ok = true) → spAll (ds.map lineD) = some ds
  | [], _ => rfl
  | d :: ds, h => by
    rw [List.map_cons, spAll, cut_line, spOne_txt d (h d (by simp)), spAll_lines ds (fun e he => h e (by simp [he]))]

/-- the text of damages; no byte if they are not valid -/
def dtext (ds : List Dm) : List UInt8 := if ds.length ≤ 20 ∧ (∀ d ∈ ds, d.ok = true) then textD ds else []

/-- the damages whose text a text of one byte or more is, as the reference reads it -/
def spText (s : List UInt8) : Option (List Dm) :=
  match spAll (cut 59 s) with
  | none => none
  | some ds => if dtext ds = s then some ds else none

/-- both read the same -/
theorem rd_sp (s : List UInt8) (hs : s ≠ []) : rdText s = spText s := by
  cases hr : rdText s with
  | some ds =>
    obtain ⟨h0, hl, hok, he⟩ := (rdText_iff s ds).1 hr
    have hc : cut 59 s = ds.map lineD := by rw [he]; exact cut_text ds h0
    unfold spText
    rw [hc, spAll_lines ds hok]
    simp only []
    rw [if_pos (by rw [dtext, if_pos ⟨hl, hok⟩, he])]
  | none =>
    cases hp : spText s with
    | none => rfl
    | some ds =>
      exfalso
      unfold spText at hp
      split at hp
      · cases hp
      · rename_i es hes
        split at hp
        · rename_i ht
          cases hp
          have hlen := spAll_len _ _ hes
          unfold dtext at ht
          split at ht
          · rename_i hv
            have h0 : ds ≠ [] := by
              intro e
              have := cut_ne 59 s
              rw [e] at hlen
              exact this (List.eq_nil_of_length_eq_zero hlen.symm)
            have := (rdText_iff s ds).2 ⟨h0, hv.1, hv.2, ht.symm⟩
            rw [hr] at this; cases this
          · exact hs ht.symm
        · cases hp

end Go.Proofs.YtpilkgcghlfdmaaGreatDoor
namespace Go.Proofs.YtpilkgcghlfdmaaGreatDoor
open Go.RowKit

set_option maxHeartbeats 400000 in
theorem l20Grey_val {n : Int} {b : Bool} {w : World} (h : inB n 0 255 = b) : Calls Tryz.prog 76 #[.int .i64 n] w fun e w' => e = .returned (.bool b) ∧ w = w' := by
  go_enter Tryz.func76, Tryz.ntmps76
  go_wp2_with fail
  refine (l01In_val h).mono ?_
  rintro e w' ⟨rfl, rfl⟩
  go_wp2_with fail
  go_ret
  exact ⟨rfl, rfl⟩

end Go.Proofs.YtpilkgcghlfdmaaGreatDoor
namespace Go.Proofs.YtpilkgcghlfdmaaGreatDoor
open Go.RowKit

/-- has a kind of damage the field i -/
def flB (k : Int) (i : Nat) : Bool :=
  if k = 1 then decide (i ≠ 3) else if k = 2 then true else if k = 3 then decide (2 ≤ i) else if k = 4 then decide (i = 0 ∨ i = 2 ∨ i = 4) else decide (i = 2 ∨ i = 4)
/-- the field i -/
def lsI (r c t w g : Int) : Nat → Int
  | 0 => r
  | 1 => c
  | 2 => t
  | 3 => w
  | _ => g

theorem row5 {w : World} {a b c d e : Value} {t : TypeId} {f : Nat → Value} (h0 : a = f 0) (h1 : b = f 1) (h2 : c = f 2) (h3 : d = f 3) (h4 : e = f 4) : RowF 5 f (.slice (some ⟨w.heap.size, 0, none⟩) 5 5) (w.alloc (.cells #[a, b, c, d, e] t (0, 0))) := by
  subst h0 h1 h2 h3 h4
  refine ⟨w.heap.size, rfl, fun i hi => ?_⟩
  rw [boxF0]
  match i, hi with
  | 0, _ => rfl
  | 1, _ => rfl
  | 2, _ => rfl
  | 3, _ => rfl
  | 4, _ => rfl

/-- a slice of n cells is handed back -/
def RetRow (w : World) (n : Nat) (f : Nat → Value) (e : Ending) (w' : World) : Prop := ∃ v, e = .returned v ∧ RowF n f v w' ∧ Below w.heap.size w w'

set_option maxHeartbeats 400000 in
theorem l27Fields_any (k : Int) (w : World) : Calls Tryz.prog 27 #[.int .i64 k] w (RetRow w 5 fun i => .bool (flB k i)) := by
  by_cases h1 : k = 1
  · subst h1
    go_enter Tryz.func27, Tryz.ntmps27
    go_wp2_with fail
    go_ret
    exact ⟨_, rfl, row5 rfl rfl rfl rfl rfl, ba1 _ _⟩
  by_cases h2 : k = 2
  · subst h2
    clear h1
    go_enter Tryz.func27, Tryz.ntmps27
    go_wp2_with fail
    go_ret
    exact ⟨_, rfl, row5 rfl rfl rfl rfl rfl, ba1 _ _⟩
  by_cases h3 : k = 3
  · subst h3
    clear h1 h2
    go_enter Tryz.func27, Tryz.ntmps27
    go_wp2_with fail
    go_ret
    exact ⟨_, rfl, row5 rfl rfl rfl rfl rfl, ba1 _ _⟩
  by_cases h4 : k = 4
  · subst h4
    clear h1 h2 h3
    go_enter Tryz.func27, Tryz.ntmps27
    go_wp2_with fail
    go_ret
    exact ⟨_, rfl, row5 rfl rfl rfl rfl rfl, ba1 _ _⟩
  have HF := Lib.hid (show ∀ i, flB k i = decide (i = 2 ∨ i = 4) from fun i => by rw [flB, if_neg h1, if_neg h2, if_neg h3, if_neg h4])
  have e1 : (k == 1) = false := by simp; omega
  have e2 : (k == 2) = false := by simp; omega
  have e3 : (k == 3) = false := by simp; omega
  have e4 : (k == 4) = false := by simp; omega
  clear h1 h2 h3 h4
  go_enter Tryz.func27, Tryz.ntmps27
  go_wp2_with fail
  go_ret
  refine ⟨_, rfl, row5 ?_ ?_ ?_ ?_ ?_, ba1 _ _⟩
  all_goals (rw [HF.out]; rfl)

set_option maxHeartbeats 400000 in
theorem l27List_any (k r c t w g : Int) (W : World) : Calls Tryz.prog 28 #[.agg #[.int .i64 k, .int .i64 r, .int .i64 c, .int .i64 t, .int .i64 w, .int .i64 g]] W (RetRow W 5 fun i => .int .i64 (lsI r c t w g i)) := by
  go_enter Tryz.func28, Tryz.ntmps28
  go_wp2_with fail
  go_ret
  have h := row5 (w := W.alloc (.cells #[.int .i64 k, .int .i64 r, .int .i64 c, .int .i64 t, .int .i64 w, .int .i64 g] 30 (0, 0))) (t := 2) (f := fun i => .int .i64 (lsI r c t w g i)) (a := .int .i64 r) (b := .int .i64 c) (c := .int .i64 t) (d := .int .i64 w) (e := .int .i64 g) rfl rfl rfl rfl rfl
  refine ⟨_, rfl, ?_, ba2 _ _ _⟩
  simpa using h

/-- is the field i as it may be -/
def okAt (k : Int) (i : Nat) (z : Int) : Bool := if flB k i = true then inB z (-400) 400 && (!decide (z < 0) || (decide (i = 3) && k == 3)) else (z == 0)
/-- what is asked of a kind besides -/
def lastB (k t w : Int) : Bool := if k = 2 then decide (1 ≤ t) && decide (1 ≤ w) else if k = 3 then decide (1 ≤ t) else if k = 5 then decide (t ≤ 256) else true
theorem dm_spec {k r c t w g : Int} (hk : 1 ≤ k ∧ k ≤ 5) (hg : inB g 0 255 = true) (h : ∀ i, i < 4 → okAt k i (lsI r c t w g i) = true) : dmOk k r c t w g = lastB k t w := by
  have h0 := h 0 (by omega)
  have h1 := h 1 (by omega)
  have h2 := h 2 (by omega)
  have h3 := h 3 (by omega)
  clear h
  unfold dmOk
  rw [hg, Bool.and_true]
  have : k = 1 ∨ k = 2 ∨ k = 3 ∨ k = 4 ∨ k = 5 := by omega
  rcases this with rfl | rfl | rfl | rfl | rfl
  all_goals (simp [okAt, flB, lsI, inB] at h0 h1 h2 h3)
  · rw [fine1, Bool.eq_iff_iff]; simp [lastB, inB]; omega
  · rw [fine2, Bool.eq_iff_iff]; simp [lastB, inB]; omega
  · rw [fine3, Bool.eq_iff_iff]; simp [lastB, inB]; omega
  · rw [fine4, Bool.eq_iff_iff]; simp [lastB, inB]; omega
  · rw [fine5, Bool.eq_iff_iff]; simp [lastB, inB]; omega
theorem dm_spec_no {k r c t w g : Int} {i : Nat} (hk : 1 ≤ k ∧ k ≤ 5) (hi : i < 4) (h : okAt k i (lsI r c t w g i) = false) : dmOk k r c t w g = false := by
  have : k = 1 ∨ k = 2 ∨ k = 3 ∨ k = 4 ∨ k = 5 := by omega
  have hi' : i = 0 ∨ i = 1 ∨ i = 2 ∨ i = 3 := by omega
  unfold dmOk
  rcases this with rfl | rfl | rfl | rfl | rfl
  all_goals
    rcases hi' with rfl | rfl | rfl | rfl
    all_goals
      simp [okAt, flB, lsI, inB] at h
      first
        | (rw [fine1, Bool.eq_false_iff]; simp [inB]; omega)
        | (rw [fine2, Bool.eq_false_iff]; simp [inB]; omega)
        | (rw [fine3, Bool.eq_false_iff]; simp [inB]; omega)
        | (rw [fine4, Bool.eq_false_iff]; simp [inB]; omega)
        | (rw [fine5, Bool.eq_false_iff]; simp [inB]; omega)

end Go.Proofs.YtpilkgcghlfdmaaGreatDoor
namespace Go.Proofs.YtpilkgcghlfdmaaGreatDoor
open Go.RowKit

theorem row_at {n : Nat} {f : Nat → Value} {u : Value} {W : World} (h : RowF n f u W) : ∃ b, u = .slice (some ⟨b, 0, none⟩) n n ∧ ∀ i, i < n → W.cell? ⟨b, i, none⟩ = some (f i) := h

set_option maxRecDepth 100000 in
set_option maxHeartbeats 2000000 in
theorem specIsDamage_yes (k r c t w g : Int) (W : World) (hk1 : 1 ≤ k) (hk2 : k ≤ 5) (hg : inB g 0 255 = true) : Calls Tryz.prog 48 #[.agg #[.int .i64 k, .int .i64 r, .int .i64 c, .int .i64 t, .int .i64 w, .int .i64 g]] W fun e W' => e = .returned (.bool (dmOk k r c t w g)) ∧ Below W.heap.size W W' := by
  have h1 : inB k 1 5 = true := inB_iff.2 ⟨hk1, hk2⟩
  have H1 := Lib.hid h1
  have HG := Lib.hid hg
  clear h1 hg
  go_enter Tryz.func48, Tryz.ntmps48
  go_wp2_with fail
  refine (l01In_val H1.out).mono ?_
  rintro e w1 ⟨rfl, rfl⟩
  go_wp2_with fail
  refine (l20Grey_val HG.out).mono ?_
  rintro e w1 ⟨rfl, rfl⟩
  go_wp2_with fail
  have hA := box1 (w := W) (cs := #[.int .i64 k, .int .i64 r, .int .i64 c, .int .i64 t, .int .i64 w, .int .i64 g]) (t := 30) (Below.refl _ _)
  have hlt : W.heap.size < (W.alloc (.cells #[.int .i64 k, .int .i64 r, .int .i64 c, .int .i64 t, .int .i64 w, .int .i64 g] 30 (0, 0))).heap.size := by simp
  have HB1 := Lib.hid (ba1 W (.cells #[.int .i64 k, .int .i64 r, .int .i64 c, .int .i64 t, .int .i64 w, .int .i64 g] 30 (0, 0)))
  generalize (W.alloc (.cells #[.int .i64 k, .int .i64 r, .int .i64 c, .int .i64 t, .int .i64 w, .int .i64 g] 30 (0, 0))) = w1 at *
  refine wp_region_rs (Keep := KB) [16, 17, 18, 19, 20, 3, 4] (fun us => _)
    [spE (.pointer (some ⟨W.heap.size, 0, none⟩)), spE (.int .i64 k), spRow 5 (fun i => .bool (flB k i)), spE (.agg #[.int .i64 k, .int .i64 r, .int .i64 c, .int .i64 t, .int .i64 w, .int .i64 g]), spRow 5 (fun i => .int .i64 (lsI r c t w g i)), spRow 5 (fun i => .bool (flB k i)), spRow 5 (fun i => .int .i64 (lsI r c t w g i))]
    (StX w1) (by kernel_rfl) (by kernel_rfl) (Nat.le_of_ble_eq_true rfl) (fun us => by simp [over, List.mapIdx_cons]; exact rfl) (stX0 _) kbr ?_ ?_
  · refine ⟨?_, ?_, ?_, ?_, ?_, ?_, ?_, trivial⟩
    all_goals (intro us wr hst hd; rw [if_pos (by kernel_rfl)]; dsimp only)
    · clear hd
      go_simp
      exact kb_same hst rfl
    · have d16 : us 16 = .pointer (some ⟨W.heap.size, 0, none⟩) := hd ⟨0, .data⟩ (by simp) rfl
      clear hd
      have hB := boxB hst hA hlt
      go_simp
      exact kb_same hst rfl
    · have d17 : us 17 = .int .i64 k := hd ⟨1, .data⟩ (by simp) rfl
      clear hd
      go_simp
      exact (l27Fields_any k wr).mono fun e w' ⟨v, he, hr, hb⟩ => ⟨v, he, kb_below hst hb hr⟩
    · clear hd
      have hB := boxB hst hA hlt
      go_simp
      exact kb_same hst rfl
    · have d19 : us 19 = .agg #[.int .i64 k, .int .i64 r, .int .i64 c, .int .i64 t, .int .i64 w, .int .i64 g] := hd ⟨3, .data⟩ (by simp) rfl
      clear hd
      go_simp
      exact (l27List_any k r c t w g wr).mono fun e w' ⟨v, he, hr, hb⟩ => ⟨v, he, kb_below hst hb hr⟩
    · have d18 : RowF 5 (fun i => .bool (flB k i)) (us 18) wr := hd ⟨2, .data⟩ (by simp) rfl
      clear hd
      go_simp
      exact kb_same hst d18
    · have d20 : RowF 5 (fun i => .int .i64 (lsI r c t w g i)) (us 20) wr := hd ⟨4, .data⟩ (by simp) rfl
      clear hd
      go_simp
      exact kb_same hst d20
  · intro us wr hst hd
    have d18 : RowF 5 (fun i => .bool (flB k i)) (us 3) wr := hd 5 (by simp)
    have d20 : RowF 5 (fun i => .int .i64 (lsI r c t w g i)) (us 4) wr := hd 6 (by simp)
    clear hd
    obtain ⟨b1, e1, hc1⟩ := row_at d18
    obtain ⟨b2, e2, hc2⟩ := row_at d20
    have HC1 := Lib.hid hc1
    have HC2 := Lib.hid hc2
    have hB := boxB hst hA hlt
    have HB := Lib.hid (bt0 HB1.out hst (Nat.le_refl _))
    clear d18 d20 hc1 hc2 hA hst
    simp only [List.drop, List.length]
    rw [e1, e2]
    clear e1 e2
    go_wp2_with fail
    go_loop [5] (fun i => ∃ q : Nat, q ≤ 4 ∧ i = .int .i64 q ∧ ∀ j, j < q → okAt k j (lsI r c t w g j) = true) (fun i => 4 - (intOf i).toNat)
    case atStart => exact ⟨0, by omega, rfl, fun j hj => absurd hj (by omega)⟩
    case round =>
      obtain ⟨q, hq, rfl, hok⟩ := hrel
      have HO := Lib.hid hok
      clear hok
      by_cases hlt4 : q < 4
      · have g1 := HC1.out q (by omega)
        have g2 := HC2.out q (by omega)
        obtain ⟨f, hf⟩ : ∃ f, flB k q = f := ⟨_, rfl⟩
        obtain ⟨z, hz⟩ : ∃ z, lsI r c t w g q = z := ⟨_, rfl⟩
        rw [hf] at g1
        rw [hz] at g2
        have HF := Lib.hid hf
        have HZ := Lib.hid hz
        clear hf hz
        have HZ' : Hid (∀ b, okAt k q z = b → okAt k q (lsI r c t w g q) = b) := Lib.hid (fun b h => by rw [HZ.out]; exact h)
        rcases Bool.eq_false_or_eq_true f with rfl | rfl
        · rcases Bool.eq_false_or_eq_true (inB z (-400) 400) with h2 | h2
          · have H2 := Lib.hid h2
            clear h2
            by_cases hneg : z < 0
            · by_cases hq3 : 3 ≤ q
              · obtain rfl : q = 3 := by omega
                rcases Bool.eq_false_or_eq_true (k == 3) with h3 | h3
                · have hok : okAt k 3 z = true := by rw [okAt, if_pos HF.out, H2.out, h3]; simp
                  have h3' : (k != 3) = false := by simp [bne, h3]
                  have HOK := Lib.hid hok
                  clear hok
                  go_wp2_with fail
                  refine (l01In_val H2.out).mono ?_
                  rintro e w1 ⟨rfl, rfl⟩
                  go_wp2_with fail
                  exact ⟨⟨4, by omega, by go_num, fun j hj => by
                    rcases Nat.lt_or_ge j 3 with h | h
                    · exact HO.out j h
                    · obtain rfl : j = 3 := by omega
                      exact HZ'.out _ HOK.out⟩, by simp [intOf]⟩
                · have hok : okAt k 3 z = false := by rw [okAt, if_pos HF.out, H2.out, h3]; simp; omega
                  have h3' : (k != 3) = true := by simp [bne, h3]
                  have HOK := Lib.hid hok
                  clear hok
                  go_wp2_with fail
                  refine (l01In_val H2.out).mono ?_
                  rintro e w1 ⟨rfl, rfl⟩
                  go_wp2_with fail
                  go_ret
                  exact ⟨ret_bool (dm_spec_no ⟨hk1, hk2⟩ hlt4 (HZ'.out _ HOK.out)).symm, HB.out⟩
              · have hok : okAt k q z = false := by rw [okAt, if_pos HF.out, H2.out]; simp; omega
                have hq3' : ((q : Int) != 3) = true := by simp; omega
                have HOK := Lib.hid hok
                clear hok
                go_wp2_with fail
                refine (l01In_val H2.out).mono ?_
                rintro e w1 ⟨rfl, rfl⟩
                go_wp2_with fail
                go_ret
                exact ⟨ret_bool (dm_spec_no ⟨hk1, hk2⟩ hlt4 (HZ'.out _ HOK.out)).symm, HB.out⟩
            · have hok : okAt k q z = true := by rw [okAt, if_pos HF.out, H2.out]; simp; omega
              have HOK := Lib.hid hok
              clear hok
              go_wp2_with fail
              refine (l01In_val H2.out).mono ?_
              rintro e w1 ⟨rfl, rfl⟩
              go_wp2_with fail
              exact ⟨⟨q + 1, by omega, by go_num, fun j hj => by
                rcases Nat.lt_or_ge j q with h | h
                · exact HO.out j h
                · obtain rfl : j = q := by omega
                  exact HZ'.out _ HOK.out⟩, by simp [intOf]; omega⟩
          · have hok : okAt k q z = false := by rw [okAt, if_pos HF.out, h2]; rfl
            have HOK := Lib.hid hok
            have H2 := Lib.hid h2
            clear hok h2
            go_wp2_with fail
            refine (l01In_val H2.out).mono ?_
            rintro e w1 ⟨rfl, rfl⟩
            go_wp2_with fail
            go_ret
            exact ⟨ret_bool (dm_spec_no ⟨hk1, hk2⟩ hlt4 (HZ'.out _ HOK.out)).symm, HB.out⟩
        · have HF0 : Hid (¬ flB k q = true) := Lib.hid (by rw [HF.out]; decide)
          rcases Bool.eq_false_or_eq_true (z == 0) with h2 | h2
          · have hok : okAt k q z = true := by rw [okAt, if_neg HF0.out, h2]
            have HOK := Lib.hid hok
            obtain rfl : z = 0 := by simpa using h2
            clear hok h2
            go_wp2_with fail
            refine (l01In_val (b := true) rfl).mono ?_
            rintro e w1 ⟨rfl, rfl⟩
            go_wp2_with fail
            exact ⟨⟨q + 1, by omega, by go_num, fun j hj => by
              rcases Nat.lt_or_ge j q with h | h
              · exact HO.out j h
              · obtain rfl : j = q := by omega
                exact HZ'.out _ HOK.out⟩, by simp [intOf]; omega⟩
          · have hok : okAt k q z = false := by rw [okAt, if_neg HF0.out, h2]
            have HOK := Lib.hid hok
            have h2' : (z != 0) = true := by simp [bne, h2]
            clear hok
            go_wp2_with fail
            go_ret
            exact ⟨ret_bool (dm_spec_no ⟨hk1, hk2⟩ hlt4 (HZ'.out _ HOK.out)).symm, HB.out⟩
      · have hend : dmOk k r c t w g = lastB k t w := dm_spec ⟨hk1, hk2⟩ HG.out (fun i hi => HO.out i (by omega))
        have HE := Lib.hid hend
        clear HO hend
        rcases five_or k with rfl | rfl | rfl | rfl | rfl | h
        · go_wp2_with fail
          go_ret
          exact ⟨ret_bool (by rw [HE.out]; rfl), HB.out⟩
        · by_cases ht1 : 1 ≤ t
          all_goals
            go_wp2_with fail
            all_goals go_ret
            all_goals exact ⟨ret_bool (by rw [HE.out]; simp [lastB]; try omega), HB.out⟩
        · go_wp2_with fail
          go_ret
          exact ⟨ret_bool (by rw [HE.out]; rfl), HB.out⟩
        · go_wp2_with fail
          go_ret
          exact ⟨ret_bool (by rw [HE.out]; rfl), HB.out⟩
        · go_wp2_with fail
          go_ret
          exact ⟨ret_bool (by rw [HE.out]; rfl), HB.out⟩
        · omega

set_option maxRecDepth 100000 in
set_option maxHeartbeats 1000000 in
theorem specIsDamage_any (k r c t w g : Int) (W : World) : Calls Tryz.prog 48 #[.agg #[.int .i64 k, .int .i64 r, .int .i64 c, .int .i64 t, .int .i64 w, .int .i64 g]] W fun e W' => e = .returned (.bool (dmOk k r c t w g)) ∧ Below W.heap.size W W' := by
  rcases Bool.eq_false_or_eq_true (inB k 1 5) with h1 | h1
  · rcases Bool.eq_false_or_eq_true (inB g 0 255) with h2 | h2
    · rw [inB_iff] at h1
      exact specIsDamage_yes k r c t w g W h1.1 h1.2 h2
    · have e : dmOk k r c t w g = false := by rw [dmOk, h2, Bool.and_false]
      rw [e]
      clear e
      have H1 := Lib.hid h1
      have H2 := Lib.hid h2
      clear h1 h2
      go_enter Tryz.func48, Tryz.ntmps48
      go_wp2_with fail
      refine (l01In_val H1.out).mono ?_
      rintro e w1 ⟨rfl, rfl⟩
      go_wp2_with fail
      refine (l20Grey_val H2.out).mono ?_
      rintro e w1 ⟨rfl, rfl⟩
      go_wp2_with fail
      go_ret
      exact ⟨rfl, ba1 _ _⟩
  · have e : dmOk k r c t w g = false := by rw [dmOk, fine0 (inB_not.1 h1), Bool.false_and]
    rw [e]
    clear e
    have H1 := Lib.hid h1
    clear h1
    go_enter Tryz.func48, Tryz.ntmps48
    go_wp2_with fail
    refine (l01In_val H1.out).mono ?_
    rintro e w1 ⟨rfl, rfl⟩
    go_wp2_with fail
    go_ret
    exact ⟨rfl, ba1 _ _⟩
theorem specIsDamage_val {k r c t w g : Int} {b : Bool} {W : World} (h : dmOk k r c t w g = b) : Calls Tryz.prog 48 #[.agg #[.int .i64 k, .int .i64 r, .int .i64 c, .int .i64 t, .int .i64 w, .int .i64 g]] W fun e W' => e = .returned (.bool b) ∧ Below W.heap.size W W' := h ▸ specIsDamage_any k r c t w g W

end Go.Proofs.YtpilkgcghlfdmaaGreatDoor
namespace Go.Proofs.YtpilkgcghlfdmaaGreatDoor
open Go.RowKit

/-- the words of the kinds, in their order -/
def wordL : Nat → List UInt8
  | 0 => dBlot
  | 1 => dScratch
  | 2 => dSkew
  | 3 => dNoise
  | _ => dFade
def wordB (i : Nat) : ByteArray := ⟨(wordL i).toArray⟩
theorem word_kind {l : List UInt8} {i : Nat} (hi : i < 5) : wordL i = l ↔ kindOf l = i + 1 := by
  have hw := kind_word l
  have hk := kind_words
  constructor
  · rintro rfl
    match i, hi with
    | 0, _ => exact hk.1
    | 1, _ => exact hk.2.1
    | 2, _ => exact hk.2.2.1
    | 3, _ => exact hk.2.2.2.1
    | 4, _ => exact hk.2.2.2.2
  · intro h
    match i, hi with
    | 0, _ => exact (hw.1 h).symm
    | 1, _ => exact (hw.2.1 h).symm
    | 2, _ => exact (hw.2.2.1 h).symm
    | 3, _ => exact (hw.2.2.2.1 h).symm
    | 4, _ => exact (hw.2.2.2.2 h).symm

set_option maxHeartbeats 400000 in
theorem l27Words_any (w : World) : Calls Tryz.prog 26 #[] w (RetRow w 5 fun i => .string (wordB i)) := by
  go_enter Tryz.func26, Tryz.ntmps26
  go_wp2_with fail
  go_ret
  exact ⟨_, rfl, row5 rfl rfl rfl rfl rfl, ba1 _ _⟩

/-- the kind that the first k words tell -/
def kindTo (l : List UInt8) (k : Nat) : Nat := if kindOf l ≤ k then kindOf l else 0
theorem kindTo_zero (l : List UInt8) : kindTo l 0 = 0 := by unfold kindTo; split <;> omega
theorem kindOf_le (l : List UInt8) : kindOf l ≤ 5 := by
  unfold kindOf
  repeat' split
  all_goals omega
theorem kindTo_yes {l : List UInt8} {k : Nat} (h : kindOf l = k + 1) : kindTo l (k + 1) = k + 1 := by unfold kindTo; rw [if_pos (by omega), h]
theorem kindTo_no {l : List UInt8} {k : Nat} (h : kindOf l ≠ k + 1) : kindTo l (k + 1) = kindTo l k := by
  unfold kindTo
  by_cases h2 : kindOf l ≤ k
  · rw [if_pos h2, if_pos (by omega)]
  · rw [if_neg h2, if_neg (by omega)]
theorem kindTo_five (l : List UInt8) : kindTo l 5 = kindOf l := by unfold kindTo; rw [if_pos (kindOf_le l)]

/-- what the reading of one damage answers -/
def RetOne (w : World) (o : Option Dm) (e : Ending) (w' : World) : Prop :=
  ∃ d : Dm, e = .returned (.tuple #[.agg #[.int .i64 d.k, .int .i64 d.r, .int .i64 d.c, .int .i64 d.t, .int .i64 d.w, .int .i64 d.g], .bool o.isSome]) ∧ (∀ d', o = some d' → d = d') ∧ Below w.heap.size w w'

/-- while the numbers of the fields are read -/
structure NumI (F : List Bool) (t : List (List UInt8)) (k a : Nat) (nums : List Int) : Prop where
  len : nums.length = k
  kl : k ≤ 5
  rel : spNums F t = (spNums (F.drop k) (t.drop a)).map (nums ++ ·)
theorem numI_start (F : List Bool) (t : List (List UInt8)) : NumI F t 0 0 [] := ⟨rfl, by omega, by simp⟩
theorem numI_skip {F : List Bool} {t : List (List UInt8)} {k a : Nat} {nums : List Int} (h : NumI F t k a nums) (hf : F[k]? = some false) (hk : k < 5) : NumI F t (k + 1) a (nums ++ [0]) := by
  refine ⟨by simp [h.len], by omega, ?_⟩
  rw [h.rel, List.drop_eq_getElem_cons (List.getElem?_eq_some_iff.1 hf).1, (List.getElem?_eq_some_iff.1 hf).2, spNums]
  cases spNums (F.drop (k + 1)) (t.drop a) <;> simp
theorem numI_some {F : List Bool} {t : List (List UInt8)} {k a : Nat} {nums : List Int} {x : List UInt8} {n : Int} (h : NumI F t k a nums) (hf : F[k]? = some true) (hk : k < 5) (hx : t[a]? = some x) (hn : sgnS x = some n) : NumI F t (k + 1) (a + 1) (nums ++ [n]) := by
  refine ⟨by simp [h.len], by omega, ?_⟩
  rw [h.rel, List.drop_eq_getElem_cons (List.getElem?_eq_some_iff.1 hf).1, (List.getElem?_eq_some_iff.1 hf).2, List.drop_eq_getElem_cons (List.getElem?_eq_some_iff.1 hx).1, (List.getElem?_eq_some_iff.1 hx).2, spNums, hn]
  simp only []
  cases spNums (F.drop (k + 1)) (t.drop (a + 1)) <;> simp
theorem numI_none {F : List Bool} {t : List (List UInt8)} {k a : Nat} {nums : List Int} {x : List UInt8} (h : NumI F t k a nums) (hf : F[k]? = some true) (hx : t[a]? = some x) (hn : sgnS x = none) : spNums F t = none := by
  rw [h.rel, List.drop_eq_getElem_cons (List.getElem?_eq_some_iff.1 hf).1, (List.getElem?_eq_some_iff.1 hf).2, List.drop_eq_getElem_cons (List.getElem?_eq_some_iff.1 hx).1, (List.getElem?_eq_some_iff.1 hx).2, spNums, hn]
  rfl
theorem numI_short {F : List Bool} {t : List (List UInt8)} {k a : Nat} {nums : List Int} (h : NumI F t k a nums) (hf : F[k]? = some true) (hx : t.length ≤ a) : spNums F t = none := by
  rw [h.rel, List.drop_eq_getElem_cons (List.getElem?_eq_some_iff.1 hf).1, (List.getElem?_eq_some_iff.1 hf).2, List.drop_of_length_le hx, spNums]
  rfl
theorem spFl_len (k : Nat) : (spFl k).length = 5 := by
  unfold spFl
  repeat' split
  all_goals rfl
theorem numI_end {K : Nat} {t : List (List UInt8)} {a : Nat} {nums : List Int} (h : NumI (spFl K) t 5 a nums) : spNums (spFl K) t = some nums := by
  rw [h.rel, List.drop_of_length_le (by rw [spFl_len]; exact Nat.le_refl _), spNums]; simp
theorem spFl_at {K i : Nat} (hK : 1 ≤ K) (hK2 : K ≤ 5) (hi : i < 5) : (spFl K)[i]? = some (flB (K : Int) i) := by
  have h1 : K = 1 ∨ K = 2 ∨ K = 3 ∨ K = 4 ∨ K = 5 := by omega
  have h2 : i = 0 ∨ i = 1 ∨ i = 2 ∨ i = 3 ∨ i = 4 := by omega
  rcases h1 with rfl | rfl | rfl | rfl | rfl <;> rcases h2 with rfl | rfl | rfl | rfl | rfl <;> rfl
theorem spOne_zero {h : List UInt8} {t : List (List UInt8)} (hk : kindOf h = 0) : spOne (h :: t) = none := by simp [spOne, hk]
theorem spOne_none {h : List UInt8} {t : List (List UInt8)} (hn : spNums (spFl (kindOf h)) t = none) : spOne (h :: t) = none := by
  unfold spOne; simp only [hn]; split <;> rfl
theorem spOne_some {h : List UInt8} {t : List (List UInt8)} {r c t' w g : Int} (hk : kindOf h ≠ 0) (hn : spNums (spFl (kindOf h)) t = some [r, c, t', w, g]) : spOne (h :: t) = some ⟨kindOf h, r, c, t', w, g⟩ := by
  unfold spOne; simp only [hn]; rw [if_neg hk]
theorem five_list {l : List Int} (h : l.length = 5) : ∃ r c t w g, l = [r, c, t, w, g] := by
  match l, h with
  | [r, c, t, w, g], _ => exact ⟨r, c, t, w, g, rfl⟩

/-- the words lie in order -/
theorem bytesL_cons {ss : List ByteArray} {l : List (List UInt8)} {h : List UInt8} {t : List (List UInt8)} (e : bytesL ss = l) (e2 : l = h :: t) : ∃ b bs, ss = b :: bs ∧ b.data.toList = h ∧ bytesL bs = t := by
  subst e2
  cases ss with
  | nil => simp [bytesL] at e
  | cons b bs =>
    rw [bytesL, List.map_cons, List.cons.injEq] at e
    exact ⟨b, bs, rfl, e.1, e.2⟩

end Go.Proofs.YtpilkgcghlfdmaaGreatDoor
namespace Go.Proofs.YtpilkgcghlfdmaaGreatDoor
open Go.RowKit

/-- a cell that a pointer leads to -/
def spPtr (x : Value) : Sp KB := ⟨fun u W => ∃ b o, u = .pointer (some ⟨b, o, none⟩) ∧ W.cell? ⟨b, o, none⟩ = some x, fun _ _ _ hk ⟨b, o, e, h⟩ => ⟨b, o, e, by rw [hk.cell (p := ⟨b, o, none⟩) (lt_of_cell h)]; exact h⟩⟩

/-- the box of the damage that is read, and the words -/
structure OneSt (w : World) (a : Option Addr) (ss : List ByteArray) (k : Int) (wr : World) : Prop where
  bres : wr.heap[w.heap.size]? = some (.cells #[.int .i64 0, .int .i64 0, .int .i64 0, .int .i64 0, .int .i64 0, .int .i64 0] 30 (0, 0))
  bd : ∃ B, w.heap.size + 1 ≤ B ∧ wr.heap[B]? = some (.cells #[.int .i64 k, .int .i64 0, .int .i64 0, .int .i64 0, .int .i64 0, .int .i64 0] 30 (0, 0))
  str : StrsAt wr a ss
  bel : Below w.heap.size w wr

theorem retOne_no {w w' : World} {o : Option Dm} (h : o = none) (k r c t v g : Int) (hb : Below w.heap.size w w') : RetOne w o (.returned (.tuple #[.agg #[.int .i64 k, .int .i64 r, .int .i64 c, .int .i64 t, .int .i64 v, .int .i64 g], .bool false])) w' := by
  subst h
  exact ⟨⟨k, r, c, t, v, g⟩, rfl, fun _ e => (by cases e), hb⟩
theorem retOne_yes {w w' : World} {o : Option Dm} (k r c t v g : Int) (h : o = some ⟨k, r, c, t, v, g⟩) (hb : Below w.heap.size w w') : RetOne w o (.returned (.tuple #[.agg #[.int .i64 k, .int .i64 r, .int .i64 c, .int .i64 t, .int .i64 v, .int .i64 g], .bool true])) w' := by
  subst h
  exact ⟨⟨k, r, c, t, v, g⟩, rfl, fun _ e => Option.some.inj e, hb⟩
theorem minus_cons {x : ByteArray} (hp : 0 < x.size) (h : x[0] = 45) : x.data.toList = 45 :: (x.data.toList.drop 1).take (x.size - 1) := by
  have hl : x.data.toList.length = x.size := rfl
  have h0 : 0 < x.data.toList.length := by omega
  have h2 := List.drop_eq_getElem_cons h0
  rw [List.drop_zero] at h2
  have h3 : (x.data.toList.drop 1).take (x.size - 1) = x.data.toList.drop 1 := List.take_of_length_le (by rw [List.length_drop]; omega)
  have h4 : x.data.toList[0] = 45 := h
  rw [h3]
  rw [h4] at h2
  exact h2
theorem plus_cons {x : ByteArray} {r : List UInt8} (hp : 0 < x.size) (e : x.data.toList = 45 :: r) : x[0] = 45 := by
  have h2 : x.data.toList[0]? = some 45 := by rw [e]; rfl
  have hl : x.data.toList.length = x.size := rfl
  rw [List.getElem?_eq_getElem (by omega)] at h2
  exact Option.some.inj h2
theorem zs_set {nums : List Int} {k : Nat} (hl : nums.length = k) (hk : k < 5) (z : Int) : (nums ++ List.replicate (5 - k) 0).set k z = (nums ++ [z]) ++ List.replicate (5 - (k + 1)) 0 := by
  rw [List.set_append_right _ _ (by omega), hl, Nat.sub_self, show 5 - k = (5 - (k + 1)) + 1 by omega, List.replicate_succ, List.set_cons_zero, List.append_assoc]; rfl
theorem zs_skip {nums : List Int} {k : Nat} (hk : k < 5) : nums ++ List.replicate (5 - k) (0 : Int) = (nums ++ [0]) ++ List.replicate (5 - (k + 1)) 0 := by
  rw [show 5 - k = (5 - (k + 1)) + 1 by omega, List.replicate_succ, List.append_assoc]; rfl
theorem sgn_minus {x : ByteArray} {r : List UInt8} (h : x.data.toList = 45 :: r) : sgnS x.data.toList = (match valS r with | none => none | some n => some (-n)) := by
  rw [h, sgnS, if_pos rfl]
  all_goals (cases valS r <;> rfl)
theorem sgn_plus {x : ByteArray} (h : ∀ r, x.data.toList ≠ 45 :: r) : sgnS x.data.toList = valS x.data.toList := by
  cases hx : x.data.toList with
  | nil => rw [sgnS]
  | cons a r => rw [sgnS, if_neg (fun e => h r (by rw [hx, e]))]

end Go.Proofs.YtpilkgcghlfdmaaGreatDoor
namespace Go.Proofs.YtpilkgcghlfdmaaGreatDoor
open Go.RowKit

theorem row4 {w : World} {a b c d : Value} {t : TypeId} {f : Nat → Value} (h0 : f 0 = a) (h1 : f 1 = b) (h2 : f 2 = c) (h3 : f 3 = d) : RowF 4 f (.slice (some ⟨w.heap.size, 0, none⟩) 4 4) (w.alloc (.cells #[a, b, c, d] t (0, 0))) := by
  refine ⟨w.heap.size, rfl, fun i hi => ?_⟩
  rw [boxF0]
  match i, hi with
  | 0, _ => rw [h0]; rfl
  | 1, _ => rw [h1]; rfl
  | 2, _ => rw [h2]; rfl
  | 3, _ => rw [h3]; rfl
set_option maxHeartbeats 400000 in
theorem l32Words_any (w : World) : Calls Tryz.prog 93 #[] w (RetRow w 4 fun i => .string (wordJB ((i : Int) + 1))) := by
  go_enter Tryz.func93, Tryz.ntmps93
  go_wp2_with fail
  go_ret
  exact ⟨_, rfl, row4 rfl rfl rfl rfl, ba1 _ _⟩

set_option maxRecDepth 100000 in
set_option maxHeartbeats 1000000 in
theorem l32Sum_any (x : Int) (s : ByteArray) (w : World) (hs : s.size ≤ 1048576) (hx : 0 ≤ x ∧ x < 65521) :
    Calls Tryz.prog 95 #[.int .i64 x, .string s] w fun e w' => e = .returned (.int .i64 (sumJ x s.data.toList)) ∧ w = w' := by
  have hsl : s.data.toList.length = s.size := rfl
  go_enter Tryz.func95, Tryz.ntmps95
  go_wp2_with fail
  go_loop [0, 5] (fun q i => ∃ j : Nat, j ≤ s.size ∧ i = .int .i64 j ∧ q = .int .i64 (sumJ x (s.data.toList.take j))) (fun _ i => s.size - (intOf i).toNat)
  case atStart => exact ⟨0, Nat.zero_le _, rfl, rfl⟩
  case round =>
    obtain ⟨j, hj, rfl, rfl⟩ := hrel
    have hsr := sumJ_range hx (s.data.toList.take j)
    by_cases hlt : j < s.size
    · have hxj : s.data.toList[j]? = some s[j] := by rw [List.getElem?_eq_getElem (show j < s.data.toList.length from hlt)]; rfl
      have HSS := Lib.hid (sumJ_take (s := x) hxj)
      have hx8 : (s[j]).toNat < 256 := (s[j]).toNat_lt
      obtain ⟨q, hq⟩ : ∃ q, sumJ x (s.data.toList.take j) = q := ⟨_, rfl⟩
      rw [hq] at hsr HSS ⊢
      have e1 : IntKind.i64.wrap (131 * q) = 131 * q := IntWalk.i64_in _ (by omega)
      have e2 : IntKind.i64.wrap ((s[j]).toNat : Int) = ((s[j]).toNat : Int) := IntWalk.i64_in _ (by omega)
      have e3 : IntKind.i64.wrap (131 * q + ((s[j]).toNat : Int)) = 131 * q + ((s[j]).toNat : Int) := IntWalk.i64_in _ (by omega)
      have e4 : IntKind.i64.wrap (131 * q + ((s[j]).toNat : Int) + 1) = 131 * q + ((s[j]).toNat : Int) + 1 := IntWalk.i64_in _ (by omega)
      have e5 : (131 * q + ((s[j]).toNat : Int) + 1).tmod 65521 = (131 * q + ((s[j]).toNat : Int) + 1) % 65521 := Int.tmod_eq_emod_of_nonneg (by omega)
      clear hq hxj
      go_wp2_with fail
      exact ⟨⟨j + 1, by omega, by go_num, by rw [HSS.out]⟩, by simp [intOf]; omega⟩
    · obtain rfl : j = s.size := Nat.le_antisymm hj (Nat.le_of_not_lt hlt)
      go_wp2_with fail
      go_ret
      exact ⟨by rw [← hsl, List.take_length]; rfl, rfl⟩

/-- a line as a text -/
def lineB (n : Nat) (s : Int) (r : Rc) : ByteArray := ⟨(lineJ n s r).toArray⟩
set_option maxRecDepth 100000 in
set_option maxHeartbeats 1000000 in
theorem l32Line_any (n : Nat) (r : Rc) (s : Int) (w : World) (hok : r.ok = true) (hn : n < 1000) (hs : 0 ≤ s ∧ s < 65521) :
    Calls Tryz.prog 74 #[.int .i64 n, .agg #[.int .i64 r.k, .int .i64 r.n], .int .i64 s] w fun e w' => e = .returned (.tuple #[.string (lineB n s r), .int .i64 (nextJ n s r)]) ∧ Below w.heap.size w w' := by
  have hok' := (r.ok_iff).1 hok
  obtain ⟨k, i⟩ := r
  dsimp only at hok' ⊢
  obtain ⟨q, rfl⟩ : ∃ q : Nat, k = (q : Int) + 1 := ⟨(k - 1).toNat, by omega⟩
  have hq4 : q < 4 := by omega
  obtain ⟨dn, hdn⟩ : ∃ dn, decB n = dn := ⟨_, rfl⟩
  obtain ⟨di, hdi⟩ : ∃ di, decB i = di := ⟨_, rfl⟩
  obtain ⟨wb, hwb⟩ : ∃ wb, wordJB ((q : Int) + 1) = wb := ⟨_, rfl⟩
  have HDN := Lib.hid hdn
  have HDI := Lib.hid hdi
  have HWB := Lib.hid hwb
  have hzn : dn.size ≤ 3 := by rw [← hdn]; exact itoa_len (n := (n : Int)) 2 (by omega) (by omega)
  have hzi : di.size ≤ 3 := by rw [← hdi]; exact itoa_len (n := i) 2 (by omega) (by omega)
  have hzw : wb.size ≤ 5 := by rw [← hwb]; exact wordJB_size _
  obtain ⟨c1, hc1⟩ : ∃ c1, dn ++ ⟨#[32]⟩ = c1 := ⟨_, rfl⟩
  obtain ⟨c2, hc2⟩ : ∃ c2, c1 ++ wb = c2 := ⟨_, rfl⟩
  obtain ⟨c3, hc3⟩ : ∃ c3, c2 ++ ⟨#[32]⟩ = c3 := ⟨_, rfl⟩
  obtain ⟨hh, hc4⟩ : ∃ hh, c3 ++ di = hh := ⟨_, rfl⟩
  have hz1 : c1.size ≤ 4 := by rw [← hc1, ByteArray.size_append]; show dn.size + 1 ≤ 4; omega
  have hz2 : c2.size ≤ 9 := by rw [← hc2, ByteArray.size_append]; omega
  have hz3 : c3.size ≤ 10 := by rw [← hc3, ByteArray.size_append]; show c2.size + 1 ≤ 10; omega
  have hz4 : hh.size ≤ 13 := by rw [← hc4, ByteArray.size_append]; omega
  have HC1 := Lib.hid hc1
  have HC2 := Lib.hid hc2
  have HC3 := Lib.hid hc3
  have HC4 := Lib.hid hc4
  have HHD : Hid (hh.data.toList = headJ n ⟨(q : Int) + 1, i⟩) := Lib.hid (by
    rw [headJ, ← hc4, ← hc3, ← hc2, ← hc1, ← hdn, ← hdi, ← hwb]
    simp [decB, wordJB])
  clear hc1 hc2 hc3 hc4
  clear hdn hdi hwb hok
  go_enter Tryz.func74, Tryz.ntmps74
  go_wp2_with fail
  have HW := Lib.hid (ba1 w (.cells #[.int .i64 ((q : Int) + 1), .int .i64 i] 53 (0, 0)))
  have hbx := push_at w (.cells #[.int .i64 ((q : Int) + 1), .int .i64 i] 53 (0, 0))
  have hx0 := blkLt hbx
  have hc0 := (heap_cellR hbx).1
  clear hbx
  generalize w.alloc (.cells #[.int .i64 ((q : Int) + 1), .int .i64 i] 53 (0, 0)) = W at *
  refine wp_region_rt (Keep := KB) [10, 11, 12, 13, 14, 15, 16, 17, 18, 19, 20, 21, 22, 23, 24] (fun us => _)
    [spE (.int .i64 (n : Int)),
     spE (.string dn),
     spE (.string c1),
     spRow 4 (fun i => .string (wordJB ((i : Int) + 1))),
     spE (.pointer (some ⟨w.heap.size, 0, none⟩)),
     spE (.int .i64 ((q : Int) + 1)),
     spE (.int .i64 (q : Nat)),
     spPtr (.string wb),
     spE (.string wb),
     spE (.string c2),
     spE (.string c3),
     spE (.pointer (some ⟨w.heap.size, 1, none⟩)),
     spE (.int .i64 i),
     spE (.string di),
     spE (.string hh)]
    (StX W) (by kernel_rfl) (by kernel_rfl) (Nat.le_of_ble_eq_true rfl) (fun us => by simp [over, List.mapIdx_cons]; exact rfl) (stX0 _) kbr ?_ ?_
  · refine ⟨?_, ?_, ?_, ?_, ?_, ?_, ?_, ?_, ?_, ?_, ?_, ?_, ?_, ?_, ?_, trivial⟩
    all_goals (intro us wx hst hd; rw [if_pos (by kernel_rfl)]; dsimp only)
    · clear hd
      go_simp
      exact kb_same hst rfl
    · have d10 : us 10 = (.int .i64 (n : Int)) := hd ⟨0, .data⟩ (by simp) rfl
      clear hd
      go_simp
      exact (l01Dec_any n (n : Int) wx (by omega) (by omega) (by omega)).mono fun e w' ⟨he, hb⟩ => ⟨_, by rw [he, HDN.out], kb_below hst hb rfl⟩
    · have d11 : us 11 = (.string dn) := hd ⟨1, .data⟩ (by simp) rfl
      clear hd
      have hs3 : ¬ 9223372036854775807 < dn.size + 1 := by omega
      go_simp
      exact kb_same hst (congrArg Value.string HC1.out)
    · clear hd
      go_simp
      exact (l32Words_any wx).mono fun e w' ⟨v, he, hr, hb⟩ => ⟨v, he, kb_below hst hb hr⟩
    · clear hd
      go_simp
      exact kb_same hst rfl
    · have d14 : us 14 = (.pointer (some ⟨w.heap.size, 0, none⟩)) := hd ⟨4, .data⟩ (by simp) rfl
      clear hd
      have hB := boxB hst hc0 hx0
      go_simp
      exact kb_same hst rfl
    · have d15 : us 15 = (.int .i64 ((q : Int) + 1)) := hd ⟨5, .data⟩ (by simp) rfl
      clear hd
      have e1 : IntKind.i64.wrap (q : Int) = (q : Int) := IntWalk.i64_in _ (by omega)
      go_simp
      exact kb_same hst rfl
    · have d13 : RowF 4 (fun i => .string (wordJB ((i : Int) + 1))) (us 13) wx := hd ⟨3, .data⟩ (by simp) rfl
      have d16 : us 16 = (.int .i64 (q : Nat)) := hd ⟨6, .data⟩ (by simp) rfl
      clear hd
      obtain ⟨br, er, hcr⟩ := row_at d13
      have hck := hcr q hq4
      rw [HWB.out] at hck
      have hqi : (q : Int) < 4 := by omega
      clear hcr d13
      go_simp
      exact kb_same hst ⟨br, q, rfl, hck⟩
    · obtain ⟨bp17, op17, d17, hp17⟩ : ∃ b' o', us 17 = .pointer (some ⟨b', o', none⟩) ∧ wx.cell? ⟨b', o', none⟩ = some (.string wb) := hd ⟨7, .data⟩ (by simp) rfl
      clear hd
      go_simp
      exact kb_same hst rfl
    · have d12 : us 12 = (.string c1) := hd ⟨2, .data⟩ (by simp) rfl
      have d18 : us 18 = (.string wb) := hd ⟨8, .data⟩ (by simp) rfl
      clear hd
      have hs3 : ¬ 9223372036854775807 < c1.size + wb.size := by omega
      go_simp
      exact kb_same hst (congrArg Value.string HC2.out)
    · have d19 : us 19 = (.string c2) := hd ⟨9, .data⟩ (by simp) rfl
      clear hd
      have hs3 : ¬ 9223372036854775807 < c2.size + 1 := by omega
      go_simp
      exact kb_same hst (congrArg Value.string HC3.out)
    · clear hd
      go_simp
      exact kb_same hst rfl
    · have d21 : us 21 = (.pointer (some ⟨w.heap.size, 1, none⟩)) := hd ⟨11, .data⟩ (by simp) rfl
      clear hd
      have hB := boxB hst hc0 hx0
      go_simp
      exact kb_same hst rfl
    · have d22 : us 22 = (.int .i64 i) := hd ⟨12, .data⟩ (by simp) rfl
      clear hd
      go_simp
      exact (l01Dec_any 200 i wx (by omega) (by omega) (by omega)).mono fun e w' ⟨he, hb⟩ => ⟨_, by rw [he, HDI.out], kb_below hst hb rfl⟩
    · have d20 : us 20 = (.string c3) := hd ⟨10, .data⟩ (by simp) rfl
      have d23 : us 23 = (.string di) := hd ⟨13, .data⟩ (by simp) rfl
      clear hd
      have hs3 : ¬ 9223372036854775807 < c3.size + di.size := by omega
      go_simp
      exact kb_same hst (congrArg Value.string HC4.out)
  · intro us wx hst hd
    have d24 : us 24 = (.string hh) := hd 14 (by simp)
    clear hd
    simp only [List.drop, List.length]
    rw [d24]
    have HBX := Lib.hid (bt0 HW.out hst (Nat.le_refl _))
    clear hst hc0 hx0
    go_wp2_with fail
    refine (l32Sum_any s hh wx (by omega) hs).mono ?_
    rintro e w2 ⟨rfl, rfl⟩
    have HN : Hid (sumJ s hh.data.toList = nextJ n s ⟨(q : Int) + 1, i⟩) := Lib.hid (by rw [HHD.out, nextJ])
    have hnr := nextJ_range (n := n) (r := ⟨(q : Int) + 1, i⟩) hs
    rw [HN.out]
    obtain ⟨nx, hnx⟩ : ∃ nx, nextJ n s ⟨(q : Int) + 1, i⟩ = nx := ⟨_, rfl⟩
    rw [hnx] at hnr ⊢
    have HNX := Lib.hid hnx
    have hs4 : ¬ 9223372036854775807 < hh.size + 1 := by omega
    clear hnx
    go_wp2_with fail
    refine (l01Dec_any 65521 nx wx (by omega) (by omega) (by omega)).mono ?_
    rintro e w3 ⟨rfl, hb3⟩
    have hzx : (decB nx).size ≤ 5 := itoa_len (n := nx) 4 (by omega) (by omega)
    have HX3 := Lib.hid (bt0 HBX.out hb3 (Nat.le_refl _))
    have HLB : Hid (hh ++ ⟨#[32]⟩ ++ decB nx = lineB n s ⟨(q : Int) + 1, i⟩) := Lib.hid (by
      apply ByteArray.ext
      apply Array.toList_inj.1
      have e : (lineB n s ⟨(q : Int) + 1, i⟩).data.toList = headJ n ⟨(q : Int) + 1, i⟩ ++ 32 :: Lib.itoa nx := by rw [← HNX.out]; rfl
      rw [e, ← HHD.out]
      simp [decB])
    obtain ⟨dx, hdx⟩ : ∃ dx, decB nx = dx := ⟨_, rfl⟩
    rw [hdx] at HLB hzx ⊢
    obtain ⟨h5, hh5⟩ : ∃ h5, hh ++ ⟨#[32]⟩ = h5 := ⟨_, rfl⟩
    have hz5 : h5.size ≤ 14 := by rw [← hh5, ByteArray.size_append]; show hh.size + 1 ≤ 14; omega
    rw [hh5] at HLB ⊢
    have hs5 : ¬ 9223372036854775807 < h5.size + dx.size := by omega
    clear hb3 hdx hh5
    go_wp2_with fail
    go_ret2
    exact ⟨by rw [← HLB.out, HNX.out]; rfl, HX3.out⟩

end Go.Proofs.YtpilkgcghlfdmaaGreatDoor
namespace Go.Proofs.YtpilkgcghlfdmaaGreatDoor
open Go.RowKit

set_option maxRecDepth 100000 in
set_option maxHeartbeats 1000000 in
theorem l32Code_any (a : Option Addr) (l : List Rc) (c : Nat) (w : World) (hl : l.length ≤ 1000000000) (ha : rcE.At w a l) :
    Calls Tryz.prog 43 #[.slice a l.length c] w fun e w' => e = .returned (.int .i64 (codeJ l)) ∧ Below w.heap.size w w' := by
  have HA := Lib.hid ha
  clear ha
  by_cases hb : 300 < l.length
  · have h1 : (300 : Int) < (l.length : Int) := by omega
    have HC : Hid (codeJ l = 3) := Lib.hid (by rw [codeJ, if_pos hb])
    clear hb
    go_enter Tryz.func43, Tryz.ntmps43
    go_wp2_with fail
    go_ret
    exact ⟨by rw [HC.out]; rfl, Below.refl _ _⟩
  · have h1 : ¬ (300 : Int) < (l.length : Int) := by omega
    have hl3 : l.length ≤ 300 := by omega
    have HC : Hid (codeJ l = if l.all Rc.ok = true then 0 else 1) := Lib.hid (by rw [codeJ, if_neg hb])
    clear hb
    go_enter Tryz.func43, Tryz.ntmps43
    go_wp2_with fail
    go_loopw [3] (fun i wr => ∃ k : Nat, k ≤ l.length ∧ i = .int .i64 k ∧ (l.take k).all Rc.ok = true ∧ Below w.heap.size w wr) (fun i _ => l.length - (intOf i).toNat)
    case atStart => exact ⟨0, Nat.zero_le _, rfl, rfl, Below.refl _ _⟩
    case round =>
      obtain ⟨k, hk, rfl, hall, hbr⟩ := hrel
      have HALL := Lib.hid hall
      have HBR := Lib.hid hbr
      clear hall hbr
      by_cases hlt : k < l.length
      · obtain ⟨r, hr⟩ : ∃ r, l[k]? = some r := ⟨_, List.getElem?_eq_getElem hlt⟩
        obtain ⟨b, o, rfl, hbl, h0, h1'⟩ := rc_at (HA.out.below HBR.out) hr
        have HR := Lib.hid hr
        clear hr
        rcases Bool.eq_false_or_eq_true (isRecB r.k r.n) with hok | hok
        · have HOK : Hid (r.ok = true) := Lib.hid hok
          go_wp2_with fail
          refine (specIsRecord_val hok).mono ?_
          rintro e w1 ⟨rfl, hb1⟩
          have HB2 := Lib.hid (bt0 HBR.out hb1 (Nat.le_refl _))
          clear hb1
          go_wp2_with fail
          exact ⟨⟨k + 1, by omega, by go_num, all_take_step HR.out HALL.out HOK.out, HB2.out⟩, by simp [intOf]; omega⟩
        · have HOK : Hid (r.ok = false) := Lib.hid hok
          go_wp2_with fail
          refine (specIsRecord_val hok).mono ?_
          rintro e w1 ⟨rfl, hb1⟩
          have HB2 := Lib.hid (bt0 HBR.out hb1 (Nat.le_refl _))
          clear hb1
          go_wp2_with fail
          go_ret
          exact ⟨by rw [HC.out, all_bad HR.out HOK.out]; rfl, HB2.out⟩
      · obtain rfl : k = l.length := by omega
        go_wp2_with fail
        go_ret
        refine ⟨?_, HBR.out⟩
        have := HALL.out
        rw [List.take_length] at this
        rw [HC.out, this]; rfl

theorem lineB_list (n : Nat) (s : Int) (r : Rc) : (lineB n s r).data.toList = lineJ n s r := rfl
theorem ownB_new (w : World) : OwnB (w.alloc (.cells #[] 5 (0, 0))) w.heap.size (.slice (some ⟨w.heap.size, 0, none⟩) 0 0) [] :=
  World.ownsRow_lit (base := w.heap.size) (size := 1) w #[] 0 (Nat.le_refl _) (by unfold maxLen; omega) rfl

set_option maxRecDepth 100000 in
set_option maxHeartbeats 1000000 in
theorem l32Text_any (a : Option Addr) (l : List Rc) (c : Nat) (w : World) (hl : l.length ≤ 300) (hok : ∀ r ∈ l, r.ok = true) (ha : rcE.At w a l) :
    Calls Tryz.prog 44 #[.slice a l.length c] w fun e w' => e = .returned (.tuple #[.string (textB l), .int .i64 (lastJ 0 0 l)]) ∧ Below w.heap.size w w' := by
  have HA := Lib.hid ha
  have HOK := Lib.hid hok
  clear ha hok
  have HO0 := Lib.hid (ownB_new w)
  have HB0 := Lib.hid (ba1 w (.cells #[] 5 (0, 0)))
  go_enter Tryz.func44, Tryz.ntmps44
  go_wp2_with fail
  go_loopw [4, 5, 6, 7, 8] (fun v q i _ _ wr => ∃ (k : Nat) (a' : Option Addr) (c' : Nat) (t : List UInt8), k ≤ l.length ∧ i = .int .i64 k ∧ q = .int .i64 (lastJ 0 0 (l.take k)) ∧ t = textJ 0 0 (l.take k) ∧ v = .slice a' t.length c' ∧ OwnB wr w.heap.size (.slice a' t.length c') t ∧ Below w.heap.size w wr) (fun _ _ i _ _ _ => l.length - (intOf i).toNat)
  case atStart => exact ⟨0, _, 0, [], Nat.zero_le _, rfl, rfl, rfl, rfl, HO0.out, HB0.out⟩
  case round =>
    clear HO0 HB0
    obtain ⟨k, a', c', t, hk, rfl, rfl, ht, rfl, ho, hbr⟩ := hrel
    have HT := Lib.hid ht
    have HO := Lib.hid ho
    have HBR := Lib.hid hbr
    have hwr := hbr.size
    clear ht ho hbr
    by_cases hlt : k < l.length
    · obtain ⟨r, hr⟩ : ∃ r, l[k]? = some r := ⟨_, List.getElem?_eq_getElem hlt⟩
      obtain ⟨b, o, rfl, hbl, h0, h1'⟩ := rc_at (HA.out.below HBR.out) hr
      have HR := Lib.hid hr
      have hrok := HOK.out r (List.mem_of_getElem? hr)
      have hlr := lastJ_range (l.take k) 0 (s := 0) (by omega)
      have hlt2 : t.length ≤ 6000 := by
        have := textJ_len (l.take k) 0 0 (by simp; omega) (by omega) (fun r hr => HOK.out r (List.mem_of_mem_take hr))
        rw [HT.out]
        simp at this; omega
      have hll := lineJ_len (n := k) (show k < 1000 by omega) hlr hrok
      clear hr
      go_wp2_with fail
      refine (l32Line_any k r _ _ hrok (by omega) hlr).mono ?_
      rintro e w1 ⟨rfl, hb1⟩
      have HB1 := Lib.hid (bt0 HBR.out hb1 (Nat.le_refl _))
      have HO1 := Lib.hid (HO.out.grown hb1)
      have hw1 : w.heap.size ≤ w1.heap.size := HB1.out.size
      have hlb : (lineB k (lastJ 0 0 (l.take k)) r).size ≤ 19 := hll
      obtain ⟨B, hB⟩ : ∃ B, lineB k (lastJ 0 0 (l.take k)) r = B := ⟨_, rfl⟩
      rw [hB] at hlb ⊢
      have HBB := Lib.hid hB
      clear hb1 hB
      go_wp2_with (at_builtin; refine wpList_append_bs (o := _) (s := .tmp 27) (x := .tmp 28) rfl rfl w.heap.size (.slice a' t.length c') t B rfl HO1.out rfl (by omega) hw1 ?h9)
      case h9 =>
      intro a2 c2 t2 w2 ht2 ho2 hb2
      have HO2 := Lib.hid ho2
      have HT2 := Lib.hid ht2
      have HB2 := Lib.hid (HB1.out.trans hb2)
      have hw2 : w.heap.size ≤ w2.heap.size := HB2.out.size
      have hl2 : t2.length ≤ 6019 := by
        have h9 : B.data.toList.length = B.size := rfl
        rw [ht2, List.length_append]; omega
      clear ht2 ho2 hb2
      go_wp2_with (at_builtin; refine wpList_append_b1 (o := _) (s := .tmp 30) (x := .tmp 31) rfl rfl w.heap.size (.slice a2 t2.length c2) t2 10 rfl (HO2.out.grown (ba1 _ _)) w2.heap.size rfl (push_at w2 _) (by omega) (by simp; omega) ?h8)
      case h8 =>
      intro a3 c3 t3 w3 ht3 ho3 hb3
      have HO3 := Lib.hid ho3
      have HT3 : Hid (t3 = textJ 0 0 (l.take (k + 1))) := Lib.hid (by rw [ht3, HT2.out, HT.out, ← (textJ_take HR.out).1, ← HBB.out]; simp [lineB_list])
      have HB3 := Lib.hid (HB2.out.trans (((ba1 w2 _).mono hw2).trans hb3))
      have HNX := Lib.hid (textJ_take HR.out).2
      clear ht3 ho3 hb3
      go_wp2_with fail
      exact ⟨⟨k + 1, a3, c3, t3, by omega, by go_num, by rw [HNX.out], HT3.out, rfl, HO3.out, HB3.out⟩, by simp [intOf]; omega⟩
    · obtain rfl : k = l.length := by omega
      have hcv := conv_own HO.out
      have HTT : Hid ((⟨t.toArray⟩ : ByteArray) = textB l ∧ lastJ 0 0 (l.take l.length) = lastJ 0 0 l) := Lib.hid (by
        rw [HT.out, List.take_length]; exact ⟨rfl, rfl⟩)
      rw [HTT.out.1] at hcv
      rw [HTT.out.2]
      go_wp2_with fail
      go_ret2
      exact ⟨rfl, HBR.out⟩

set_option maxRecDepth 100000 in
set_option maxHeartbeats 1000000 in
theorem specJournalOf_any (a : Option Addr) (l : List Rc) (c : Nat) (w : World) (hl : l.length ≤ 1000000000) (ha : rcE.At w a l) :
    Calls Tryz.prog 17 #[.slice a l.length c] w (RetJx w (jrnS l)) := by
  have HA := Lib.hid ha
  clear ha
  by_cases hc0 : codeJ l = 0
  · have HJ : Hid (jrnS l = (textB l, 0)) := Lib.hid (by rw [jrnS, if_pos hc0])
    have HOK := Lib.hid (codeJ_ok hc0).2
    have hl3 := (codeJ_ok hc0).1
    have HC0 := Lib.hid hc0
    clear hc0
    go_enter Tryz.func17, Tryz.ntmps17
    go_wp2_with fail
    refine (l32Code_any a l c w hl HA.out).mono ?_
    rintro e w1 ⟨rfl, hb1⟩
    have HB1 := Lib.hid hb1
    rw [HC0.out]
    clear hb1
    go_wp2_with fail
    refine (l32Text_any a l c w1 hl3 HOK.out (HA.out.below HB1.out)).mono ?_
    rintro e w2 ⟨rfl, hb2⟩
    have HB2 := Lib.hid (bt0 HB1.out hb2 (Nat.le_refl _))
    clear hb2
    go_wp2_with fail
    go_ret2
    exact retJx_eq HJ.out HB2.out
  · have HJ : Hid (jrnS l = (⟨#[]⟩, codeJ l)) := Lib.hid (by rw [jrnS, if_neg hc0])
    obtain ⟨cd, hcd⟩ : ∃ cd, codeJ l = cd := ⟨_, rfl⟩
    have HCD := Lib.hid hcd
    rw [hcd] at hc0 HJ
    have h2 : (cd != 0) = true := by simpa using hc0
    clear hc0 hcd
    go_enter Tryz.func17, Tryz.ntmps17
    go_wp2_with fail
    refine (l32Code_any a l c w hl HA.out).mono ?_
    rintro e w1 ⟨rfl, hb1⟩
    have HB1 := Lib.hid hb1
    rw [HCD.out]
    clear hb1
    go_wp2_with fail
    go_ret2
    exact retJx_eq HJ.out HB1.out

end Go.Proofs.YtpilkgcghlfdmaaGreatDoor
namespace Go.Proofs.YtpilkgcghlfdmaaGreatDoor
open Go.RowKit

/-- the kind with a word, among the first k -/
def kTo (p : List UInt8) (k : Nat) : Int := if kindJ p ≤ k then kindJ p else 0
theorem kindJ_range (p : List UInt8) : 0 ≤ kindJ p ∧ kindJ p ≤ 4 := by
  by_cases h : kindJ p = 0
  · omega
  · have := word_kindJ h; omega
theorem kTo_zero (p : List UInt8) : kTo p 0 = 0 := by
  have := kindJ_range p
  unfold kTo; split <;> omega
theorem kTo_four (p : List UInt8) : kTo p 4 = kindJ p := by
  have := kindJ_range p
  unfold kTo; rw [if_pos (by omega)]
theorem kTo_yes {p : List UInt8} {k : Nat} (h4 : k < 4) (h : wordJ ((k : Int) + 1) = p) : kTo p (k + 1) = (k : Int) + 1 := by
  have : kindJ p = (k : Int) + 1 := by rw [← h]; exact kindJ_word (by omega) (by omega)
  unfold kTo; rw [if_pos (by omega)]; exact this
theorem kTo_no {p : List UInt8} {k : Nat} (h : wordJ ((k : Int) + 1) ≠ p) : kTo p (k + 1) = kTo p k := by
  have hr := kindJ_range p
  unfold kTo
  by_cases h1 : kindJ p ≤ k
  · rw [if_pos h1, if_pos (by omega)]
  · rw [if_neg h1]
    by_cases h2 : kindJ p = (k : Int) + 1
    · exfalso
      have h0 : kindJ p ≠ 0 := by omega
      exact h (by rw [← h2]; exact (word_kindJ h0).1)
    · rw [if_neg (by omega)]

/-- what is read of a line -/
def RetRd (w : World) (r : Rc) (e : Ending) (w' : World) : Prop := e = .returned (.agg #[.int .i64 r.k, .int .i64 r.n]) ∧ Below w.heap.size w w'
theorem spReadJ_not4 {p : List UInt8} (h : (cut 32 p).length ≠ 4) : spReadJ p = ⟨0, 0⟩ := by
  unfold spReadJ
  split
  · rename_i a b c d he; rw [he] at h; simp at h
  · rfl

set_option maxRecDepth 100000 in
set_option maxHeartbeats 1000000 in
theorem l32Read_any (s : ByteArray) (w : World) (hs : s.size ≤ 1048576) :
    Calls Tryz.prog 72 #[.string s] w (RetRd w (spReadJ s.data.toList)) := by
  have HB0 := Lib.hid (ba1 w (.cells #[.int .i64 0, .int .i64 0] 53 (0, 0)))
  have HX0 := Lib.hid (push_at w (.cells #[.int .i64 0, .int .i64 0] 53 (0, 0)))
  go_enter Tryz.func72, Tryz.ntmps72
  go_wp2_with fail
  refine (l01Split_any s 32 _ hs).mono ?_
  rintro e w1 ⟨ss, a, cp, hss, rfl, ho, hb1⟩
  have HB1 := Lib.hid (bt0 HB0.out hb1 (Nat.le_refl _))
  have HX1 := Lib.hid (blkK hb1 HX0.out)
  have HST := Lib.hid ho.strs
  have hlen : ss.length = (cut 32 s.data.toList).length := by rw [← hss, bytesL, List.length_map]
  have hsz : ∀ b ∈ ss, b.size ≤ 1048576 := fun x hx => Nat.le_trans ((cut_len 32 s.data.toList).2 _ (by rw [← hss]; exact List.mem_map.2 ⟨x, hx, rfl⟩)) hs
  have hw1 := blkLt HX1.out
  clear ho hb1
  by_cases h4 : ss.length = 4
  · rw [h4]
    obtain ⟨b0, b1, b2, b3, rfl⟩ : ∃ b0 b1 b2 b3, ss = [b0, b1, b2, b3] := by
      match ss, h4 with
      | [b0, b1, b2, b3], _ => exact ⟨b0, b1, b2, b3, rfl⟩
    obtain ⟨bb, oo, rfl, hc1⟩ := HST.out 1 (by simp)
    obtain ⟨bb', oo', e2, hc2⟩ := HST.out 2 (by simp)
    simp only [Option.some.injEq, Addr.mk.injEq, and_true] at e2
    obtain ⟨rfl, rfl⟩ := e2
    have hc1 : w1.cell? ⟨bb, oo + 1, none⟩ = some (.string b1) := hc1
    have hc2 : w1.cell? ⟨bb, oo + 2, none⟩ = some (.string b2) := hc2
    have hz2 : b2.size ≤ 1048576 := hsz b2 (by simp)
    have hcut : cut 32 s.data.toList = [b0.data.toList, b1.data.toList, b2.data.toList, b3.data.toList] := by rw [← hss]; rfl
    have HCUT := Lib.hid hcut
    obtain ⟨p1, hp1⟩ : ∃ p1, b1 = p1 := ⟨_, rfl⟩
    rw [hp1] at hc1 HCUT
    clear hcut hss hlen hsz HST h4 hp1
    have HX2 := Lib.hid (push_old (A := .cells #[.int .i64 0, .int .i64 0] 53 (0, 0)) HX1.out)
    have HD2 := Lib.hid (push_at w1 (.cells #[.int .i64 0, .int .i64 0] 53 (0, 0)))
    have HW2 := Lib.hid (ba1 w1 (.cells #[.int .i64 0, .int .i64 0] 53 (0, 0)))
    go_wp2_with fail
    go_loopw [5] (fun i wr => ∃ k : Nat, k ≤ 4 ∧ i = .int .i64 k ∧ wr.heap[w1.heap.size]? = some (.cells #[.int .i64 (kTo p1.data.toList k), .int .i64 0] 53 (0, 0)) ∧ Below w1.heap.size w1 wr) (fun i _ => 4 - (intOf i).toNat)
    case atStart => exact ⟨0, by omega, rfl, by rw [kTo_zero]; exact HD2.out, HW2.out⟩
    case round =>
      clear HD2 HW2
      obtain ⟨k, hk, rfl, hbox, hbl⟩ := hrel
      have HBX := Lib.hid hbox
      have HBL := Lib.hid hbl
      clear hbox hbl
      by_cases hlt : k < 4
      · have hlti : (k : Int) < 4 := by omega
        obtain ⟨b0, hb0⟩ : ∃ b0, bb = b0 := ⟨_, rfl⟩
        obtain ⟨o0, ho0⟩ : ∃ o0, oo = o0 := ⟨_, rfl⟩
        rw [hb0, ho0] at hc1 ⊢
        have hwr : wr.cell? ⟨b0, o0 + 1, none⟩ = some (.string p1) := (HBL.out.cell (p := ⟨b0, o0 + 1, none⟩) (lt_of_cell hc1)).trans hc1
        have hlr : b0 < wr.heap.size := lt_of_cell hwr
        clear hc1 hc2 hb0 ho0
        go_wp2_with fail
        refine wp_region_rt (Keep := KB) [19, 20, 21, 22, 23, 24, 25, 26] (fun us => _)
          [spRow 4 (fun i => .string (wordJB ((i : Int) + 1))),
           spE (.int .i64 (k : Int)),
           spPtr (.string (wordJB ((k : Int) + 1))),
           spE (.string (wordJB ((k : Int) + 1))),
           spE (.slice (some ⟨b0, o0, none⟩) 4 cp),
           spPtr (.string p1),
           spE (.string p1),
           spE (.bool ((wordJB ((k : Int) + 1)).toList == p1.toList))]
          (StX wr) (by kernel_rfl) (by kernel_rfl) (Nat.le_of_ble_eq_true rfl) (fun us => by simp [over, List.mapIdx_cons]; exact rfl) (stX0 _) kbr ?_ ?_
        · refine ⟨?_, ?_, ?_, ?_, ?_, ?_, ?_, ?_, trivial⟩
          all_goals (intro us wx hst hd; rw [if_pos (by kernel_rfl)]; dsimp only)
          · clear hd
            go_simp
            exact (l32Words_any wx).mono fun e w' ⟨v, he, hr, hb⟩ => ⟨v, he, kb_below hst hb hr⟩
          · clear hd
            go_simp
            exact kb_same hst rfl
          · have d19 : RowF 4 (fun i => .string (wordJB ((i : Int) + 1))) (us 19) wx := hd ⟨0, .data⟩ (by simp) rfl
            have d20 : us 20 = (.int .i64 (k : Int)) := hd ⟨1, .data⟩ (by simp) rfl
            clear hd
            obtain ⟨br, er, hcr⟩ := row_at d19
            have hck := hcr k hlt
            clear hcr d19
            go_simp
            exact kb_same hst ⟨br, k, rfl, hck⟩
          · obtain ⟨bp21, op21, d21, hp21⟩ : ∃ b' o', us 21 = .pointer (some ⟨b', o', none⟩) ∧ wx.cell? ⟨b', o', none⟩ = some (.string (wordJB ((k : Int) + 1))) := hd ⟨2, .data⟩ (by simp) rfl
            clear hd
            go_simp
            exact kb_same hst rfl
          · clear hd
            go_simp
            exact kb_same hst rfl
          · have d23 : us 23 = (.slice (some ⟨b0, o0, none⟩) 4 cp) := hd ⟨4, .data⟩ (by simp) rfl
            clear hd
            have hcx : wx.cell? ⟨b0, o0 + 1, none⟩ = some (.string p1) := (hst.cell (p := ⟨b0, o0 + 1, none⟩) hlr).trans hwr
            go_simp
            exact kb_same hst ⟨b0, o0 + 1, rfl, hcx⟩
          · obtain ⟨bp24, op24, d24, hp24⟩ : ∃ b' o', us 24 = .pointer (some ⟨b', o', none⟩) ∧ wx.cell? ⟨b', o', none⟩ = some (.string p1) := hd ⟨5, .data⟩ (by simp) rfl
            clear hd
            go_simp
            exact kb_same hst rfl
          · have d22 : us 22 = (.string (wordJB ((k : Int) + 1))) := hd ⟨3, .data⟩ (by simp) rfl
            have d25 : us 25 = (.string p1) := hd ⟨6, .data⟩ (by simp) rfl
            clear hd
            go_simp
            exact kb_same hst rfl
        · intro us wx hst hd
          have d26 : us 26 = (.bool ((wordJB ((k : Int) + 1)).toList == p1.toList)) := hd 7 (by simp)
          clear hd
          simp only [List.drop, List.length]
          rw [d26]
          have HBW := Lib.hid (HBL.out.trans (hst.mono HBL.out.size))
          have HX := Lib.hid (blkK hst HBX.out)
          clear hst hwr hlr
          by_cases hkk : wordJ ((k : Int) + 1) = p1.data.toList
          · have e1 : ((wordJB ((k : Int) + 1)).toList == p1.toList) = true := by
              rw [beq_iff_eq, ByteArray.toList_eq, ByteArray.toList_eq, wordJB_list]; exact hkk
            rw [e1]
            obtain ⟨hcb, hfb⟩ := heap_cellR HX.out
            have HKK := Lib.hid (kTo_yes hlt hkk)
            have e5 : IntKind.i64.wrap ((k : Int) + 1) = (k : Int) + 1 := IntWalk.i64_in _ (by omega)
            clear e1 hkk
            go_wp2_with fail
            refine ⟨⟨k + 1, by omega, by go_num, ?_, HBW.out.setCell (Nat.le_refl _) _⟩, by simp [intOf]; omega⟩
            rw [HKK.out]
            exact src_set HX.out 0 _
          · have e1 : ((wordJB ((k : Int) + 1)).toList == p1.toList) = false := by
              rw [beq_eq_false_iff_ne, ne_eq, ByteArray.toList_eq, ByteArray.toList_eq, wordJB_list]; exact hkk
            rw [e1]
            have HKK := Lib.hid (kTo_no hkk)
            clear e1 hkk
            go_wp2_with fail
            refine ⟨⟨k + 1, by omega, by go_num, ?_, HBW.out⟩, by simp [intOf]; omega⟩
            rw [HKK.out]
            exact HX.out
      · obtain rfl : k = 4 := by omega
        have hwr : wr.cell? ⟨bb, oo + 2, none⟩ = some (.string b2) := (HBL.out.cell (p := ⟨bb, oo + 2, none⟩) (lt_of_cell hc2)).trans hc2
        have hwr' : w1.heap.size ≤ wr.heap.size := HBL.out.size
        clear hc1 hc2
        go_wp2_with fail
        refine (l01Value_any b2 _ hz2).mono ?_
        rintro e w4 ⟨v, rfl, hv, -, hb4⟩
        have HB4 := Lib.hid (HBL.out.trans (hb4.mono hwr'))
        have HXB4 := Lib.hid (blkK hb4 HBX.out)
        have HXR4 := Lib.hid (blk HB4.out HX1.out hw1)
        have hne : w.heap.size ≠ w1.heap.size := by omega
        clear hb4 hwr
        cases hvs : valS b2.data.toList with
        | none =>
          have HN : Hid (spReadJ s.data.toList = ⟨0, 0⟩) := Lib.hid (by unfold spReadJ; simp only [HCUT.out, hvs])
          simp only [Option.isSome]
          obtain ⟨hc4, hf4⟩ := heap_cellR HXR4.out
          clear hvs hv
          go_wp2_with fail
          refine bodyPost_ret (v := .agg #[.int .i64 0, .int .i64 0]) (by simp [results, Tryz.results72, go_sem, hc4]) rfl ⟨by rw [HN.out], ?_⟩
          iterate 2 (refine Below.setCell ?_ (by dsimp only; omega) _)
          exact bt0 HB1.out HB4.out (Nat.le_refl _)
        | some n =>
          obtain rfl : v = n := hv n hvs
          have HN : Hid (spReadJ s.data.toList = ⟨kindJ p1.data.toList, v⟩) := Lib.hid (by unfold spReadJ; simp only [HCUT.out, hvs])
          simp only [Option.isSome]
          obtain ⟨hc4, hf4⟩ := heap_cellR HXR4.out
          obtain ⟨hcb, hfb⟩ := heap_cellR HXB4.out
          have HK4 := Lib.hid (kTo_four p1.data.toList)
          have hwb := blkLt HXB4.out
          clear hvs hv
          rw [HK4.out] at hcb
          go_wp2_with fail
          refine bodyPost_ret (v := .agg #[.int .i64 (kindJ p1.data.toList), .int .i64 v]) (by simp [results, Tryz.results72, go_sem, hc4]) rfl ⟨by rw [HN.out], ?_⟩
          iterate 3 (refine Below.setCell ?_ (by dsimp only; omega) _)
          exact bt0 HB1.out HB4.out (Nat.le_refl _)
  · have h4i : ((ss.length : Int) != 4) = true := by simp; omega
    have HN : Hid (spReadJ s.data.toList = ⟨0, 0⟩) := Lib.hid (spReadJ_not4 (by rw [← hlen]; exact h4))
    obtain ⟨hc0, hf0⟩ := heap_cellR HX1.out
    clear h4 hlen hss hsz
    go_wp2_with fail
    refine bodyPost_ret (v := .agg #[.int .i64 0, .int .i64 0]) (by simp [results, Tryz.results72, go_sem, hc0, hw1]) rfl ⟨by rw [HN.out], ?_⟩
    refine Below.alloc ?_ (by simp; omega) _
    iterate 2 (refine Below.setCell ?_ (by dsimp only; omega) _)
    exact HB1.out

end Go.Proofs.YtpilkgcghlfdmaaGreatDoor
