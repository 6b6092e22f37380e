import Derived.Test.YtlcglclojlffgaaGreatVSpPg
namespace Go.Proofs.YtlcglclojlffgaaGreat
open Go.RowKit

/-- rows of lists of the call's own -/
def RwsOwn (W : World) (base : Nat) (v : Value) (ws : List (List Int)) : Prop := ∃ vs : List Value, vs.length = ws.length ∧ W.ownsRow base 24 1 v ws.length vs ∧ ∀ (i : Nat) (x : List Int), ws[i]? = some x → ∃ u, vs[i]? = some u ∧ OwnI W 0 u x
theorem OwnI.grownRow {W W' : World} {base b0 : Nat} {t : TypeId} {k n : Nat} {s u : Value} {vs : List Value} {x : List Int} (h : OwnI W b0 u x) (ho : W.ownsRow base t k s n vs) (hg : W.grownBy W' s.ownBlock) (ht : 2 ≠ t) : OwnI W' b0 u x := by
  refine h.other hg fun k hk e => ?_
  rcases h.2 with ⟨rfl, _⟩ | ⟨g, cap, cur, rfl, _, hgc, _⟩
  · cases hk
  · cases hk
    exact owns_type ho hgc ht e
theorem RwsOwn.grown {W W' : World} {base : Nat} {v : Value} {ws : List (List Int)} (h : RwsOwn W base v ws) (hb : Below W.heap.size W W') : RwsOwn W' base v ws := by
  obtain ⟨vs, h1, h2, h3⟩ := h
  exact ⟨vs, h1, h2.kept (row := none) ⟨hb.os, hb.tape, hb.output, hb.size, fun k hk _ => hb.block k hk⟩ (by
    cases hv : v.ownBlock with
    | none => exact Or.inl rfl
    | some k => exact Or.inr (fun e => by cases e)), fun i x hx => by
    obtain ⟨u, hu, hp⟩ := h3 i x hx
    exact ⟨u, hu, hp.grown hb⟩⟩
theorem RwsOwn.new {w : World} {base g : Nat} (hB : base ≤ w.heap.size) (hg : g = w.heap.size) : RwsOwn (w.alloc (.cells #[] 24 (0, 0))) base (.slice (some ⟨g, 0, none⟩) 0 0) [] := by
  subst hg
  exact ⟨[], rfl, World.ownsRow_lit (base := base) (size := 1) w #[] 0 hB (by unfold maxLen; omega) rfl, fun i x hx => by simp at hx⟩
theorem RwsOwn.read {W : World} {base : Nat} {v : Value} {ws : List (List Int)} (h : RwsOwn W base v ws) : ∃ a c, v = .slice a ws.length c := by
  obtain ⟨vs, h1, h2, h3⟩ := h
  rcases h2.2 with ⟨rfl, h0⟩ | ⟨g, cap, cur, rfl, _⟩
  · exact ⟨none, 0, by rw [h0]⟩
  · exact ⟨_, _, rfl⟩
/-- a list is read out of the row -/
theorem RwsOwn.at {W : World} {base : Nat} {a : Option Addr} {n c : Nat} {ws : List (List Int)} (h : RwsOwn W base (.slice a n c) ws) {i : Nat} {x : List Int} (hx : ws[i]? = some x) :
    ∃ g a' c', a = some ⟨g, 0, none⟩ ∧ W.cell? ⟨g, i, none⟩ = some (.slice a' x.length c') ∧ IntsAt W a' x ∧ g < W.heap.size := by
  obtain ⟨vs, h1, h2, h3⟩ := h
  obtain ⟨u, hu, ho⟩ := h3 i x hx
  have hi : i < ws.length := (List.getElem?_eq_some_iff.1 hx).1
  obtain ⟨a', c', rfl, hI⟩ := ho.read
  rcases h2.2 with ⟨e1, h0⟩ | ⟨g, cap, cur, e1, hb, hgc, q1, q2, q3, q4⟩
  · omega
  · simp only [Value.slice.injEq] at e1
    obtain ⟨rfl, rfl, rfl⟩ := e1
    have hc := World.ownsRow.cellAt h2 i (by omega)
    exact ⟨g, a', c', rfl, hc.trans hu, hI, blkLt hgc⟩
theorem wpList_append_rw {ops : Array Oper} {rest : List Oper} {o : Oper} {a : Act} {Q : Exit → Act → World → Prop} {W : World} (hgd : o.guard = none) (s x : Operand)
    (ho : o.op = .call { callee := .builtin .append, args := #[s, x], argTypes := #[68, 68] })
    (base : Nat) (v : Value) (ws : List (List Int)) (y : List Int) (hs : a.eval s = v) (hown : RwsOwn W base v ws) (g : Nat) (u : Value) (hx : a.eval x = .slice (some ⟨g, 0, none⟩) 1 1)
    (hg : W.heap[g]? = some (.cells #[u] 24 (0, 0))) (hu : OwnI W 0 u y) (hl : ws.length ≤ 1000000000) (hb : base ≤ W.heap.size)
    (h : ∀ a' c' ws' w', ws' = ws ++ [y] → RwsOwn w' base (.slice a' ws'.length c') ws' → Below base W w' → wpList Tryz.prog ops Q rest (a.put o.dst (.slice a' ws'.length c')) w') : wpList Tryz.prog ops Q (o :: rest) a W := by
  obtain ⟨i0, hi, y0, y1, y2⟩ := info_parts infoSl
  obtain ⟨vs, h1, h2, h3⟩ := hown
  obtain ⟨au, cu, rfl, -⟩ := hu.read
  refine wpList_append_own _ hgd s x 68 ho base 24 i0 _ 1 24 Tryz.underlying68 hi y0 y1 y2 rfl (by decide) v ws.length vs hs h2 ⟨g, 0, none⟩ 1 1 [.slice au y.length cu] hx rfl ?_ ?_ (by unfold maxLen; omega) (by omega) hb
    (fun v' w' k1 k2 _ => ?_)
  · intro j u hu
    rw [Addr.add_lit, Nat.zero_add, (heap_cellR hg).1, ← hu]
    simp
  · intro u hu
    simp only [List.mem_singleton] at hu
    subst hu; rfl
  · have ho' : RwsOwn w' base v' (ws ++ [y]) := by
      refine ⟨vs ++ [.slice au y.length cu], by simp [h1], by rw [List.length_append]; exact k1, fun i z hz => ?_⟩
      by_cases hi : i < ws.length
      · rw [List.getElem?_append_left hi] at hz
        obtain ⟨u, hu, hp⟩ := h3 i z hz
        exact ⟨u, by rw [List.getElem?_append_left (by omega)]; exact hu, hp.grownRow h2 k2 (by decide)⟩
      · rw [List.getElem?_append_right (by omega)] at hz
        have hi0 : i - ws.length = 0 := by
          have := (List.getElem?_eq_some_iff.1 hz).1
          simp at this; omega
        rw [hi0] at hz
        simp at hz
        subst hz
        refine ⟨_, by rw [List.getElem?_append_right (by omega), h1, hi0]; rfl, hu.grownRow h2 k2 (by decide)⟩
    obtain ⟨a', c', e⟩ := ho'.read
    rw [e] at ho' ⊢
    exact h a' c' _ w' rfl ho' (below_of_grownBy k2 hb (fun k hk => (World.ownsRow.lt h2 k hk).1))
/-- a list in a new slice of one -/
def WdB (x : List Int) (v : Value) (W : World) : Prop := ∃ b u, v = .slice (some ⟨b, 0, none⟩) 1 1 ∧ W.heap[b]? = some (.cells #[u] 24 (0, 0)) ∧ OwnI W 0 u x
def spWdB (x : List Int) : Sp KB := ⟨WdB x, fun _ _ _ hk ⟨b, u, e, h1, h2⟩ => ⟨b, u, e, blkK hk h1, h2.grown hk⟩⟩
theorem wdb_new {w0 W : World} {x : List Int} {u : Value} (hst : StX w0 W) (h : OwnI W 0 u x) : RsR (StX w0) (spWdB x) W (.slice (some ⟨W.heap.size, 0, none⟩) 1 1) (W.alloc (.cells #[u] 24 (0, 0))) :=
  kb_below hst (ba1 _ _) ⟨W.heap.size, u, rfl, push_at _ _, h.grown (ba1 _ _)⟩
/-- a list of the call's own, or an empty one without room -/
def OwnE (W : World) (base : Nat) (v : Value) (l : List Int) : Prop := OwnI W base v l ∨ (l = [] ∧ ∃ b, v = .slice (some ⟨b, 0, none⟩) 0 0)
theorem OwnE.grown {W W' : World} {base : Nat} {v : Value} {l : List Int} (h : OwnE W base v l) (hb : Below W.heap.size W W') : OwnE W' base v l := h.imp (fun h => h.grown hb) id
theorem wpList_append_e1 {ops : Array Oper} {rest : List Oper} {o : Oper} {a : Act} {Q : Exit → Act → World → Prop} {W : World} (hgd : o.guard = none) (s x : Operand) (T : TypeId) (hT : Tryz.prog.underlying T = some (.slice 2))
    (ho : o.op = .call { callee := .builtin .append, args := #[s, x], argTypes := #[T, T] })
    (base : Nat) (v : Value) (l : List Int) (z : Int) (hs : a.eval s = v) (hown : OwnE W base v l) (g : Nat) (hx : a.eval x = .slice (some ⟨g, 0, none⟩) 1 1)
    (hg : W.heap[g]? = some (.cells #[.int .i64 z] 2 (0, 0))) (hl : l.length ≤ 1000000000) (hb : base ≤ W.heap.size)
    (h : ∀ a' c' l' w', l' = l ++ [z] → OwnI w' base (.slice a' l'.length c') l' → Below base W w' → wpList Tryz.prog ops Q rest (a.put o.dst (.slice a' l'.length c')) w') : wpList Tryz.prog ops Q (o :: rest) a W := by
  rcases hown with hown | ⟨rfl, b, rfl⟩
  · exact wpList_append_i1 hgd s x T hT ho base v l z hs hown g hx hg hl hb (fun a' c' l' w' e1 e2 _ e4 => h a' c' l' w' e1 e2 e4)
  · obtain ⟨i0, hi, y0, y1, y2⟩ := info_parts infoI
    refine wpList_append_grows W hgd s x T ho 2 i0 _ 1 8 hT hi y0 y1 y2 rfl (by decide) (some ⟨b, 0, none⟩) 0 0 [] hs (fun e => by cases e) rfl (fun _ _ j u hj => by simp at hj) ⟨g, 0, none⟩ 1 1 [.int .i64 z] hx rfl ?_ ?_ (by omega) (by unfold maxLen; omega) (by omega) ?_
    · intro j u hu
      rw [Addr.add_lit, Nat.zero_add, (heap_cellR hg).1, ← hu]
      simp
    · intro u hu
      simp only [List.mem_singleton] at hu
      subst hu; rfl
    · intro v' w' k1 k2
      have ho : OwnI w' W.heap.size v' [z] := k1
      obtain ⟨a', c', e, _⟩ := ho.read
      rw [e] at ho ⊢
      exact h a' c' _ w' rfl (ho.weak hb) (below_of_grownBy k2 hb (fun k e => by cases e))

set_option maxRecDepth 100000 in
set_option maxHeartbeats 4000000 in
theorem spStr_any (F : Fd) (hF : FdR F) (d c n : Nat) (xs : List Nat) (a : Option Addr) (cp : Nat) (w : World) (hok : Lay.ok ⟨d, c, n⟩ F.q = true) (hx : IntsAt w a (natI xs)) (hl : xs.length = d) (hcp : d ≤ cp) (hall : AllE F xs) :
    Calls Tryz.prog 27 #[.agg #[.int .i64 2, .int .i64 (F.k : Int), .int .i64 (F.g : Int), .int .i64 (d : Int), .int .i64 (c : Int), .int .i64 (n : Int)], .slice a d cp] w (RetSl w (natI (strC F d n c xs))) := by
  obtain ⟨hn, hn2, hnd, hd2, hc, hc2, htot, hsh⟩ := lay_facts hok
  have HF := Lib.hid hF
  have HXs := Lib.hid hx
  have HA := Lib.hid hall
  have HL := Lib.hid hl
  have HSH := Lib.hid hsh
  have HX := Lib.hid (push_at w (.cells #[.int .i64 2, .int .i64 (F.k : Int), .int .i64 (F.g : Int), .int .i64 (d : Int), .int .i64 (c : Int), .int .i64 (n : Int)] 40 (0, 0)))
  have HB0 := Lib.hid (ba1 w (.cells #[.int .i64 2, .int .i64 (F.k : Int), .int .i64 (F.g : Int), .int .i64 (d : Int), .int .i64 (c : Int), .int .i64 (n : Int)] 40 (0, 0)))
  obtain ⟨w1, hw1⟩ : ∃ w1, w1 = w.alloc (.cells #[.int .i64 2, .int .i64 (F.k : Int), .int .i64 (F.g : Int), .int .i64 (d : Int), .int .i64 (c : Int), .int .i64 (n : Int)] 40 (0, 0)) := ⟨_, rfl⟩
  have HW1 := Lib.hid hw1
  rw [← hw1] at HX HB0
  have hs1 : w1.heap.size = w.heap.size + 1 := by rw [hw1]; simp
  obtain ⟨wdf, hwdf⟩ : ∃ wdf : Nat → List Nat, wdf = wordC F d n c xs := ⟨_, rfl⟩
  have HWF := Lib.hid hwdf
  have HSC : Hid (strC F d n c xs = (ordC (shN d n) n c).map fun p => co (wdf p.1) p.2) := Lib.hid (by rw [strC, hwdf])
  clear hF hx hall hl hsh hok hw1 hwdf
  go_enter Tryz.func27, Tryz.ntmps27
  go_wp2_with fail
  rw [← HW1.out]
  have HO0 := Lib.hid (RwsOwn.new (w := w1) (base := w.heap.size + 1) (g := w.heap.size + 1) (by omega) hs1.symm)
  go_loopw [5, 6, 7, 8] (fun v f i _ wr => ∃ (b : Nat) (a : Option Addr) (cp : Nat) (ws : List (List Int)), b ≤ n ∧ i = .int .i64 b ∧ f = .int .i64 (frN d n b : Nat) ∧ ws = (List.range b).map (fun j => natI (wdf j)) ∧ v = .slice a ws.length cp ∧ RwsOwn wr (w.heap.size + 1) (.slice a ws.length cp) ws ∧ Below w1.heap.size w1 wr) (fun _ _ i _ _ => n - (intOf i).toNat)
  case atStart => exact ⟨0, _, 0, [], Nat.zero_le _, rfl, by rw [frN_zero]; rfl, rfl, rfl, HO0.out, ba1 _ _⟩
  case round =>
    obtain ⟨b, a2, c2, ws, hb, rfl, rfl, hws, rfl, ho, hbb⟩ := hrel
    have HWS := Lib.hid hws
    have HO := Lib.hid ho
    have HB := Lib.hid hbb
    have K := Lib.hid (blkK hbb HX.out)
    obtain ⟨hcA, hfA⟩ := heap_cellR K.out
    have hltA := blkLt K.out
    have hwl : ws.length = b := by rw [hws]; simp
    clear ho hbb hws
    by_cases hbn : b < n
    · have hbi : (b : Int) < (n : Int) := by omega
      obtain ⟨hs1', hs2', hs3', hs4'⟩ := HSH.out b hbn
      obtain ⟨s, hs⟩ : ∃ s, s = shN d n b := ⟨_, rfl⟩
      obtain ⟨fr, hfr⟩ : ∃ fr, fr = frN d n b := ⟨_, rfl⟩
      have HSS := Lib.hid hs
      have HFR := Lib.hid hfr
      rw [← hs] at hs1' hs2' hs3' hs4'
      rw [← hfr] at hs4' ⊢
      obtain ⟨tt, htt⟩ : ∃ tt : Nat, tt = fr + s := ⟨_, rfl⟩
      have HTT := Lib.hid htt
      have hti : (fr : Int) + (s : Int) = (tt : Int) := by omega
      have htd : tt ≤ d := by omega
      have HSZ : Hid (∀ w' : World, Calls Tryz.prog 60 #[.agg #[.int .i64 2, .int .i64 (F.k : Int), .int .i64 (F.g : Int), .int .i64 (d : Int), .int .i64 (c : Int), .int .i64 (n : Int)], .int .i64 (b : Int)] w' fun e w'' => e = .returned (.int .i64 (s : Int)) ∧ Below w'.heap.size w' w'') := Lib.hid (fun w' => by
        have h := spShare_any 2 F.k F.g (d : Int) (c : Int) (n : Int) (b : Int) w' (by omega) (by omega) (by omega) (by omega)
        rwa [share_nat d c n b hn, ← hs] at h)
      have HBL : Hid (∀ w' : World, Calls Tryz.prog 53 #[.agg #[.int .i64 2, .int .i64 (F.k : Int), .int .i64 (F.g : Int), .int .i64 (d : Int), .int .i64 (c : Int), .int .i64 (n : Int)], .int .i64 (b : Int)] w' fun e w'' => e = .returned (cdV F ((s + c : Nat) : Int) c) ∧ Below w'.heap.size w' w'') := Lib.hid (fun w' => by
        have h := spBlock_any 2 F.k F.g (d : Int) (c : Int) (n : Int) (b : Int) w' (by omega) (by omega) (by omega) (by omega) (by omega) (by omega)
        rw [share_nat d c n b hn, ← hs] at h
        rw [cdV]
        push_cast
        exact h)
      clear hs hfr htt
      go_wp2_with fail
      refine (HSZ.out _).mono ?_
      rintro e9 w4 ⟨rfl, hb4⟩
      have HO4 := Lib.hid (HO.out.grown hb4)
      have HB4 := Lib.hid (bt0 HB.out hb4 (Nat.le_refl _))
      have K4 := Lib.hid (blkK hb4 K.out)
      clear hb4 hcA hfA hltA
      obtain ⟨hcA, hfA⟩ := heap_cellR K4.out
      have hltA := blkLt K4.out
      have HXw := Lib.hid ((HXs.out.below HB0.out).below HB4.out)
      obtain ⟨b1, o1, ea, hlt1, -⟩ := co_at HXw.out (k := 0) (by rw [HL.out]; omega)
      subst ea
      obtain ⟨wd, hwd⟩ : ∃ wd, wd = wdf b := ⟨_, rfl⟩
      have HWD := Lib.hid hwd
      have HWB := Lib.hid (show wd = encW F (s + c) c ((xs.drop fr).take s) by rw [hwd, HWF.out, wordC, HSS.out, HFR.out])
      have HXD := Lib.hid (show IntsAt w4 (some ⟨b1, o1 + fr, none⟩) (natI ((xs.drop fr).take s)) by
        have h1 := (HXw.out.dropN fr).take s
        rwa [← natI_take] at h1)
      have HQ := Lib.hid (show tt ≤ cp ∧ fr ≤ tt ∧ ¬ cp = fr ∧ tt - fr = s by omega)
      have HEN : Hid (∀ wx : World, StX w4 wx → Calls Tryz.prog 61 #[cdV F ((s + c : Nat) : Int) c, .slice (some ⟨b1, o1 + fr, none⟩) s (cp - fr)] wx (RetSl wx (natI wd))) := Lib.hid (fun wx hst => by
        rw [HWB.out]
        exact spEnc_any F HF.out (s + c) c _ ((xs.drop fr).take s) s (cp - fr) wx (by rw [List.length_take, List.length_drop, HL.out]; omega) (by rw [List.length_take, List.length_drop, HL.out]; omega) (by omega) (by omega) (by omega) (fun x hx => HA.out x (List.mem_of_mem_drop (List.mem_of_mem_take hx))) (HXD.out.below hst) ⟨fun ad e => by cases e; rfl, fun e => by cases e⟩)
      clear hwd
      go_wp2_with fail
      refine wp_region_rt (Keep := KB) [24, 25, 26, 27, 28, 29, 30, 31, 32, 33] (fun us => _)
        [spE (.slice a2 ws.length c2),
         spE (.agg #[.int .i64 2, .int .i64 (F.k : Int), .int .i64 (F.g : Int), .int .i64 (d : Int), .int .i64 (c : Int), .int .i64 (n : Int)]),
         spE (.int .i64 (b : Int)),
         spE (cdV F ((s + c : Nat) : Int) c),
         spE (.slice (some ⟨b1, o1, none⟩) d cp),
         spE (.int .i64 (fr : Int)),
         spE (.int .i64 (tt : Int)),
         spE (.slice (some ⟨b1, o1 + fr, none⟩) s (cp - fr)),
         spOwn 0 (natI wd),
         spWdB (natI wd)]
        (StX w4) (by kernel_rfl) (by kernel_rfl) (Nat.le_of_ble_eq_true rfl) (fun us => by simp [over, List.mapIdx_cons]; exact rfl) (stX0 _) kbr ?_ ?_
      · refine ⟨?_, ?_, ?_, ?_, ?_, ?_, ?_, ?_, ?_, ?_, trivial⟩
        all_goals (intro us wx hst hd; rw [if_pos (by kernel_rfl)]; dsimp only)
        · clear hd
          go_simp
          exact kb_same hst rfl
        · clear hd
          have hB := boxB hst hcA hltA
          go_simp
          exact kb_same hst rfl
        · clear hd
          go_simp
          exact kb_same hst rfl
        · have d25 : us 25 = (.agg #[.int .i64 2, .int .i64 (F.k : Int), .int .i64 (F.g : Int), .int .i64 (d : Int), .int .i64 (c : Int), .int .i64 (n : Int)]) := hd ⟨1, .data⟩ (by simp) rfl
          have d26 : us 26 = (.int .i64 (b : Int)) := hd ⟨2, .data⟩ (by simp) rfl
          clear hd
          go_simp
          exact (HBL.out wx).mono fun e w' ⟨he, hb⟩ => ⟨_, he, kb_below hst hb rfl⟩
        · clear hd
          go_simp
          exact kb_same hst rfl
        · clear hd
          go_simp
          exact kb_same hst rfl
        · clear hd
          go_simp
          exact kb_same hst rfl
        · have d28 : us 28 = (.slice (some ⟨b1, o1, none⟩) d cp) := hd ⟨4, .data⟩ (by simp) rfl
          have d29 : us 29 = (.int .i64 (fr : Int)) := hd ⟨5, .data⟩ (by simp) rfl
          have d30 : us 30 = (.int .i64 (tt : Int)) := hd ⟨6, .data⟩ (by simp) rfl
          clear hd
          go_simp
          simp only [if_pos HQ.out.1, if_pos HQ.out.2.1, if_neg HQ.out.2.2.1, HQ.out.2.2.2]
          exact kb_same hst rfl
        · have d27 : us 27 = (cdV F ((s + c : Nat) : Int) c) := hd ⟨3, .data⟩ (by simp) rfl
          have d31 : us 31 = (.slice (some ⟨b1, o1 + fr, none⟩) s (cp - fr)) := hd ⟨7, .data⟩ (by simp) rfl
          clear hd
          go_simp
          exact (HEN.out wx hst).mono fun e w' ⟨a', c', he, ho, hb⟩ => ⟨_, he, kb_below hst hb (ho.weak (Nat.zero_le _))⟩
        · have d32 := hd ⟨8, .data⟩ (by simp) rfl
          clear hd
          have h32 : OwnI wx 0 (us 32) (natI wd) := d32
          obtain ⟨a7, c7, e32, -⟩ := h32.read
          rw [e32] at h32
          clear d32
          go_simp
          exact wdb_new hst h32
      · intro us wx hst hd
        have d24 : us 24 = (.slice a2 ws.length c2) := hd 0 (by simp)
        have d33 := hd 9 (by simp)
        clear hd
        simp only [List.drop, List.length]
        rw [d24]
        obtain ⟨gx, ux, hgx, hgx2, hux⟩ : WdB (natI wd) (us 33) wx := d33
        rw [hgx]
        have HOx := Lib.hid (HO4.out.grown hst)
        have HBx := Lib.hid (bt0 HB4.out hst (Nat.le_refl _))
        refine wpList_append_rw rfl (.tmp 24) (.tmp 33) rfl (w.heap.size + 1) (.slice a2 ws.length c2) ws (natI wd) rfl HOx.out gx ux rfl hgx2 hux (by omega) (by rw [← hs1]; exact HBx.out.size) ?_
        intro a9 c9 l9 w9 he9 ho9 hb9
        have HE9 := Lib.hid he9
        have HO9 := Lib.hid ho9
        have HB9 := Lib.hid (HBx.out.trans (hs1 ▸ hb9))
        have HFN := Lib.hid (show tt = frN d n (b + 1) by rw [frN_step, ← HFR.out, ← HSS.out, HTT.out])
        clear he9 ho9 hb9 hst hgx2 hux hcA hfA hltA
        go_wp2_with fail
        exact ⟨⟨b + 1, a9, c9, l9, by omega, by go_num, by rw [HFN.out], by rw [HE9.out, HWS.out, HWD.out, List.range_succ, List.map_append]; rfl, rfl, HO9.out, HB9.out⟩, by simp [intOf]; omega⟩
    · obtain rfl : b = n := by omega
      have hbi : ¬ (b : Int) < (b : Int) := by omega
      go_wp2_with fail
      have HB5 := Lib.hid (bt0 HB.out (ba1 wr (.cells #[] 2 (0, 0))) (Nat.le_refl _))
      have HO5 := Lib.hid (HO.out.grown (ba1 wr (.cells #[] 2 (0, 0))))
      refine (spOrder_any 2 F.k F.g d c b hd2 hc2 hn hn2 _).mono ?_
      rintro e9 w6 ⟨a6, c6, rfl, ho6, hb6⟩
      have HP6 := Lib.hid ho6
      have HO6 := Lib.hid (HO5.out.grown hb6)
      have HB6 := Lib.hid (bt0 HB5.out hb6 (Nat.le_refl _))
      obtain ⟨ord, hord⟩ : ∃ ord, ord = ordC (shN d b) b c := ⟨_, rfl⟩
      have HOC := Lib.hid (show ∀ p ∈ ord, p.1 < b ∧ p.2 < shN d b p.1 + c by rw [hord]; exact fun p hp => ordC_in hp)
      have HOL := Lib.hid (show ord.length ≤ 100000 ∧ 1 ≤ ord.length by
        rw [hord, ordC, List.length_append]
        have h1 := ordD_len (shN d b) b (shN d b (b - 1))
        have h2 := shN_le d b (b - 1) hn (by omega)
        have h3 : shN d b (b - 1) * b ≤ 1500 * 16 := Nat.mul_le_mul (by omega) hn2
        have h4 := ordE_len (shN d b) b c
        have h5 : c * b ≤ 64 * 16 := Nat.mul_le_mul (by omega) hn2
        have h6 : 1 * 1 ≤ c * b := Nat.mul_le_mul hc hn
        omega)
      have HWL := Lib.hid (show ∀ p, p < b → (wdf p).length = shN d b p + c by
        intro p hp
        have h1 := HSH.out p hp
        rw [HWF.out, wordC, encW, List.length_append, chkTo_len, List.length_take, List.length_drop, HL.out]
        omega)
      rw [← hord] at HP6 HSC ⊢
      clear ho6 hb6 hcA hfA hltA hord HO HB HO5 HB5
      have hol := HOL.out.1
      go_wp2_with fail
      go_loopw [9, 11] (fun v i wr => ∃ (j : Nat) (a8 : Option Addr) (c8 : Nat) (l8 : List Int), j ≤ ord.length ∧ i = .int .i64 j ∧ l8 = natI ((ord.take j).map fun p => co (wdf p.1) p.2) ∧ v = .slice a8 l8.length c8 ∧ OwnE wr w6.heap.size (.slice a8 l8.length c8) l8 ∧ Below w6.heap.size w6 wr) (fun _ i _ => ord.length - (intOf i).toNat)
      case atStart => exact ⟨0, _, 0, [], Nat.zero_le _, rfl, rfl, rfl, Or.inr ⟨rfl, _, rfl⟩, Below.refl _ _⟩
      case round =>
        obtain ⟨j, a8, c8, l8, hj, rfl, hl8, rfl, ho, hb⟩ := hrel
        have HL8 := Lib.hid hl8
        have HO8 := Lib.hid ho
        have HB8 := Lib.hid hb
        have HLL := Lib.hid (show l8.length = j by rw [hl8, natI_len, List.length_map, List.length_take]; omega)
        clear ho hb hl8
        by_cases hjl : j < ord.length
        · have hji : (j : Int) < (ord.length : Int) := by omega
          obtain ⟨⟨x, y⟩, hxy⟩ : ∃ p, p = ord[j] := ⟨_, rfl⟩
          have hox : ord[j]? = some (x, y) := by rw [hxy]; exact List.getElem?_eq_getElem hjl
          obtain ⟨hx1, hy1⟩ := HOC.out (x, y) (List.mem_of_getElem? hox)
          dsimp only at hx1 hy1
          obtain ⟨g6, bp, e6, hc6, hp6, hlt6⟩ := (HP6.out.grown HB8.out).at hox
          obtain ⟨gw, aw, cw, ew, hcw, hiw, hltw⟩ := (HO6.out.grown HB8.out).at (i := x) (x := natI (wdf x)) (by rw [HWS.out, List.getElem?_map, List.getElem?_range (by omega)]; rfl)
          obtain ⟨bw, ow, ew2, hbw, hcw2⟩ := co_at hiw (k := y) (by rw [HWL.out x hx1]; omega)
          subst e6 ew ew2
          rw [natI_len, HWL.out x hx1] at hcw
          obtain ⟨hcp, hfp⟩ := heap_cellR hp6
          have hcp0 := hcp 0
          have hcp1 := hcp 1
          have hltp := blkLt hp6
          obtain ⟨z, hz⟩ : ∃ z, z = co (wdf x) y := ⟨_, rfl⟩
          have HST := Lib.hid (show natI ((ord.take (j + 1)).map fun p => co (wdf p.1) p.2) = l8 ++ [(z : Int)] by
            rw [HL8.out, take_snoc' hox, List.map_append, natI_app, hz]; rfl)
          obtain ⟨m, hm⟩ : ∃ m, m = shN d b x + c := ⟨_, rfl⟩
          rw [← hz] at hcw2
          rw [← hm] at hcw hy1
          have hxi : (x : Int) < (ws.length : Int) := by omega
          have hyi : (y : Int) < (m : Int) := by omega
          dsimp only at hcp0 hcp1
          clear hxy hox hp6 hiw hz hm hcp hfp
          go_wp2_with fail
          refine wp_region_rt (Keep := KB) [45, 46, 47, 48, 49, 50, 51, 52, 53, 54, 55, 56, 57, 58, 59, 60, 61, 62, 63] (fun us => _)
            [spE (.slice a8 l8.length c8),
             spE (.slice (some ⟨gw, 0, none⟩) ws.length c2),
             spE (.slice (some ⟨g6, 0, none⟩) ord.length c6),
             spE (.int .i64 (j : Int)),
             spE (.pointer (some ⟨g6, j, none⟩)),
             spE (.slice (some ⟨bp, 0, none⟩) 2 2),
             spE (.pointer (some ⟨bp, 0, none⟩)),
             spE (.int .i64 (x : Int)),
             spE (.pointer (some ⟨gw, x, none⟩)),
             spE (.slice (some ⟨bw, ow, none⟩) m cw),
             spE (.slice (some ⟨g6, 0, none⟩) ord.length c6),
             spE (.int .i64 (j : Int)),
             spE (.pointer (some ⟨g6, j, none⟩)),
             spE (.slice (some ⟨bp, 0, none⟩) 2 2),
             spE (.pointer (some ⟨bp, 1, none⟩)),
             spE (.int .i64 (y : Int)),
             spE (.pointer (some ⟨bw, ow + y, none⟩)),
             spE (.int .i64 (z : Int)),
             spSlN 0 1 #[.int .i64 (z : Int)] 2]
            (StX wr) (by kernel_rfl) (by kernel_rfl) (Nat.le_of_ble_eq_true rfl) (fun us => by simp [over, List.mapIdx_cons]; exact rfl) (stX0 _) kbr ?_ ?_
          · refine ⟨?_, ?_, ?_, ?_, ?_, ?_, ?_, ?_, ?_, ?_, ?_, ?_, ?_, ?_, ?_, ?_, ?_, ?_, ?_, trivial⟩
            all_goals (intro us wx hst hd; rw [if_pos (by kernel_rfl)]; dsimp only)
            · clear hd
              go_simp
              exact kb_same hst rfl
            · clear hd
              go_simp
              exact kb_same hst rfl
            · clear hd
              go_simp
              exact kb_same hst rfl
            · clear hd
              go_simp
              exact kb_same hst rfl
            · have d47 : us 47 = (.slice (some ⟨g6, 0, none⟩) ord.length c6) := hd ⟨2, .data⟩ (by simp) rfl
              have d48 : us 48 = (.int .i64 (j : Int)) := hd ⟨3, .data⟩ (by simp) rfl
              clear hd
              go_simp
              exact kb_same hst rfl
            · have d49 : us 49 = (.pointer (some ⟨g6, j, none⟩)) := hd ⟨4, .data⟩ (by simp) rfl
              clear hd
              have hW := below_cell hst hc6
              go_simp
              exact kb_same hst rfl
            · have d50 : us 50 = (.slice (some ⟨bp, 0, none⟩) 2 2) := hd ⟨5, .data⟩ (by simp) rfl
              clear hd
              go_simp
              exact kb_same hst rfl
            · have d51 : us 51 = (.pointer (some ⟨bp, 0, none⟩)) := hd ⟨6, .data⟩ (by simp) rfl
              clear hd
              have hW := below_cell hst hcp0
              go_simp
              exact kb_same hst rfl
            · have d46 : us 46 = (.slice (some ⟨gw, 0, none⟩) ws.length c2) := hd ⟨1, .data⟩ (by simp) rfl
              have d52 : us 52 = (.int .i64 (x : Int)) := hd ⟨7, .data⟩ (by simp) rfl
              clear hd
              go_simp
              exact kb_same hst rfl
            · have d53 : us 53 = (.pointer (some ⟨gw, x, none⟩)) := hd ⟨8, .data⟩ (by simp) rfl
              clear hd
              have hW := below_cell hst hcw
              go_simp
              exact kb_same hst rfl
            · clear hd
              go_simp
              exact kb_same hst rfl
            · clear hd
              go_simp
              exact kb_same hst rfl
            · have d55 : us 55 = (.slice (some ⟨g6, 0, none⟩) ord.length c6) := hd ⟨10, .data⟩ (by simp) rfl
              have d56 : us 56 = (.int .i64 (j : Int)) := hd ⟨11, .data⟩ (by simp) rfl
              clear hd
              go_simp
              exact kb_same hst rfl
            · have d57 : us 57 = (.pointer (some ⟨g6, j, none⟩)) := hd ⟨12, .data⟩ (by simp) rfl
              clear hd
              have hW := below_cell hst hc6
              go_simp
              exact kb_same hst rfl
            · have d58 : us 58 = (.slice (some ⟨bp, 0, none⟩) 2 2) := hd ⟨13, .data⟩ (by simp) rfl
              clear hd
              go_simp
              exact kb_same hst rfl
            · have d59 : us 59 = (.pointer (some ⟨bp, 1, none⟩)) := hd ⟨14, .data⟩ (by simp) rfl
              clear hd
              have hW := below_cell hst hcp1
              go_simp
              exact kb_same hst rfl
            · have d54 : us 54 = (.slice (some ⟨bw, ow, none⟩) m cw) := hd ⟨9, .data⟩ (by simp) rfl
              have d60 : us 60 = (.int .i64 (y : Int)) := hd ⟨15, .data⟩ (by simp) rfl
              clear hd
              go_simp
              exact kb_same hst rfl
            · have d61 : us 61 = (.pointer (some ⟨bw, ow + y, none⟩)) := hd ⟨16, .data⟩ (by simp) rfl
              clear hd
              have hW := below_cell hst hcw2
              go_simp
              exact kb_same hst rfl
            · have d62 : us 62 = (.int .i64 (z : Int)) := hd ⟨17, .data⟩ (by simp) rfl
              clear hd
              go_simp
              exact sln_new hst (Nat.zero_le _)
          · intro us wx hst hd
            have d45 : us 45 = (.slice a8 l8.length c8) := hd 0 (by simp)
            have d63 := hd 18 (by simp)
            clear hd
            simp only [List.drop, List.length]
            rw [d45]
            obtain ⟨gx, hgx, -, hgx2⟩ := d63
            rw [hgx]
            have HO9 := Lib.hid (HO8.out.grown hst)
            have HB9 := Lib.hid (bt0 HB8.out hst (Nat.le_refl _))
            refine wpList_append_e1 rfl (.tmp 45) (.tmp 63) 24 Tryz.underlying24 rfl w6.heap.size (.slice a8 l8.length c8) l8 (z : Int) rfl HO9.out gx rfl hgx2 (by rw [HLL.out]; exact Nat.le_trans hj (Nat.le_trans HOL.out.1 (by decide))) HB9.out.size ?_
            intro a5 c5 l5 w5 he5 ho5 hb5
            have HE5 := Lib.hid he5
            have HO5 := Lib.hid ho5
            have HB5 := Lib.hid (HB9.out.trans hb5)
            clear he5 ho5 hb5 hst hgx2 hcw2 hcw hcp0 hcp1 hltp hbw hltw hlt6 hc6
            go_wp2_with fail
            exact ⟨⟨j + 1, a5, c5, l5, by omega, by go_num, by rw [HE5.out, HST.out], rfl, Or.inl HO5.out, HB5.out⟩, by simp [intOf]; omega⟩
        · obtain rfl : j = ord.length := by omega
          have hji : ¬ ((ord.length : Nat) : Int) < (ord.length : Int) := by omega
          have HEE := Lib.hid (show l8 = natI (strC F d b c xs) by rw [HL8.out, List.take_length, HSC.out])
          have hsz := HB0.out.size
          have hsz6 := HB6.out.size
          have HFE := Lib.hid (show OwnI wr w.heap.size (.slice a8 l8.length c8) l8 by
            rcases HO8.out with h | ⟨h1, h2⟩
            · exact h.weak (by omega)
            · exfalso
              have h3 := HLL.out
              rw [h1] at h3
              have h4 := HOL.out.2
              simp at h3
              omega)
          go_wp2_with fail
          go_ret
          rw [← HEE.out]
          exact ⟨a8, c8, rfl, HFE.out, bt0 (HB0.out.trans (HB6.out.mono hsz)) HB8.out (by omega)⟩

end Go.Proofs.YtlcglclojlffgaaGreat
