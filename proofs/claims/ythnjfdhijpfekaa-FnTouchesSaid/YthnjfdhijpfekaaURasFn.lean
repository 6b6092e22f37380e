import Derived.Test.YthnjfdhijpfekaaUSrc
import Derived.Test.YthnjfdhijpfekaaUOwn2
import Derived.Test.YthnjfdhijpfekaaUBase3
import Derived.Test.YthnjfdhijpfekaaURG3
namespace Go.Proofs.Ythnjfdhijpfekaa
open Go.RowKit

theorem leaves_append_room {P : Program} {o : Oper} {a : Act} {w : World} {R : Value → World → Prop} (s x : Operand) (t : TypeId) (ho : o.op = .call { callee := .builtin .append, args := #[s, x], argTypes := #[t, t] }) (v u : Value) (hs : a.eval s = v) (hx : a.eval x = u)
    (v' : Value) (w' : World) (hr : (Builtin.append_ #[t, t] o.type #[v, u]).run P w = .ok v' w') (hR : R v' w') : leaves P o a w R := by
  unfold leaves execOp
  simp only [ho, resolve, invoke, builtin, Sem.run_bind, Sem.run_pure, Result.andThen_ok, List.map_toArray, List.map_cons, List.map_nil, hs, hx, hr]
  exact hR

/-- the first m cells of row g are ys -/
def RowIs (W : World) (g cap m : Nat) (ys : List Int) : Prop := ∃ cur : Array Value, W.heap[g]? = some (.cells cur 2 (0, 0)) ∧ cur.size = cap ∧ cur.toList.take m = ys.map (Value.int .i64)
theorem RowIs.below {W W' : World} {g cap m B : Nat} {ys : List Int} (h : RowIs W g cap m ys) (hb : Below B W W') (hg : g < B) : RowIs W' g cap m ys := by
  obtain ⟨cur, h1, h2, h3⟩ := h
  exact ⟨cur, (hb.block g hg).trans h1, h2, h3⟩
theorem RowIs.lt {W : World} {g cap m : Nat} {ys : List Int} (h : RowIs W g cap m ys) : g < W.heap.size := by
  obtain ⟨cur, h1, _⟩ := h
  exact (Array.getElem?_eq_some_iff.1 h1).1
theorem RowIs.own {W : World} {g cap m : Nat} {ys : List Int} (h : RowIs W g cap m ys) (hl : ys.length = m) (hm : m ≤ cap) (hc : cap ≤ maxLen) : OwnI W g (.slice (some ⟨g, 0, none⟩) ys.length cap) ys := by
  obtain ⟨cur, h1, h2, h3⟩ := h
  exact ⟨by simp, Or.inr ⟨g, cap, cur, rfl, Nat.le_refl _, h1, by omega, hc, by omega, by rw [Nat.mul_one, hl]; exact h3⟩⟩
/-- one pixel more -/
theorem RowIs.more {W : World} {g cap m : Nat} {ys : List Int} {z : Int} {b : Nat} (h : RowIs W g cap m ys) (hm : m < cap) (hz : W.cell? ⟨b, 0, none⟩ = some (.int .i64 z)) (ty : TypeId) :
    ∃ W', (Builtin.append_ #[22, 22] ty #[.slice (some ⟨g, 0, none⟩) m cap, .slice (some ⟨b, 0, none⟩) 1 1]).run Try.prog W = .ok (.slice (some ⟨g, 0, none⟩) (m + 1) cap) W' ∧ RowIs W' g cap m ys ∧ RowIs W' g cap (m + 1) (ys ++ [z]) ∧ W.grownBy W' (some g) := by
  obtain ⟨cur, h1, h2, h3⟩ := h
  obtain ⟨i0, hi, y0, y1, y2⟩ := info_parts infoI
  have hr := run_append_room (P := Try.prog) W 22 ty 2 i0 Try.underlying22 hi g m cap cur h1 ⟨b, 0, none⟩ 1 1 [.int .i64 z] (by rw [y1]; rfl)
    (fun j u hj => by
      match j, hj with
      | 0, hj => simp at hj; subst hj; simpa [Addr.add] using hz
      | j + 1, hj => simp at hj) (fun u hu => by rw [List.mem_singleton] at hu; subst hu; rfl) hm (by rw [y1]; simp; omega)
  rw [y1, Nat.mul_one] at hr
  have hlen : cur.toList.length = cap := by simpa using h2
  have hrow := setRow_heap W g cur (cur.toList.take m ++ [Value.int .i64 z] ++ cur.toList.drop (m + 1)).toArray 2 (0, 0) h1
  have hsz : (cur.toList.take m ++ [Value.int .i64 z] ++ cur.toList.drop (m + 1)).toArray.size = cap := by
    simp only [List.size_toArray, List.length_append, List.length_take, List.length_drop, List.length_singleton]
    omega
  have htl : (cur.toList.take m).length = m := by rw [List.length_take]; omega
  refine ⟨_, hr, ⟨_, hrow, hsz, ?_⟩, ⟨_, hrow, hsz, ?_⟩, ⟨rfl, rfl, rfl, by simp, fun k _ hk => setRow_other W g k _ (fun e => hk (by rw [e]))⟩⟩
  · rw [List.append_assoc, List.take_append_of_le_length (by omega), List.take_of_length_le (by omega)]
    exact h3
  · rw [List.take_append_of_le_length (by simp; omega), List.take_of_length_le (by simp; omega), h3, List.map_append]
    rfl

/-- a raster is handed back -/
def RetRas (w : World) (n m : Int) (xs : List Int) (e : Ending) (w' : World) : Prop :=
  ∃ a c, e = .returned (.agg #[.int .i64 n, .int .i64 m, .slice a xs.length c]) ∧ OwnI w' w.heap.size (.slice a xs.length c) xs ∧ Below w.heap.size w w'
/-- the first t pixels -/
def pix (F : Nat → Nat → Int) (m t : Nat) : List Int := (List.range t).map fun i => F (i / m) (i % m)
theorem pix_len (F : Nat → Nat → Int) (m t : Nat) : (pix F m t).length = t := by simp [pix]
theorem pix_succ {F : Nat → Nat → Int} {m k j : Nat} (hj : j < m) : pix F m (k * m + j + 1) = pix F m (k * m + j) ++ [F k j] := by
  unfold pix
  have h1 : (k * m + j) / m = k := by rw [Nat.mul_comm, Nat.mul_add_div (by omega), Nat.div_eq_of_lt hj]; omega
  have h2 : (k * m + j) % m = j := by rw [Nat.mul_comm, Nat.mul_add_mod, Nat.mod_eq_of_lt hj]
  rw [List.range_succ, List.map_append]
  simp [h1, h2]

/-- while a raster is made -/
def RasAt (w W : World) (n m : Int) (cap t : Nat) (ys : List Int) : Prop :=
  W.heap[w.heap.size]? = some (.cells #[.int .i64 0, .int .i64 0, .slice none 0 0] 28 (0, 0)) ∧ W.heap[w.heap.size + 2]? = some (.cells #[.int .i64 n, .int .i64 m, .slice (some ⟨w.heap.size + 1, 0, none⟩) t cap] 28 (0, 0)) ∧
    RowIs W (w.heap.size + 1) cap t ys ∧ Below w.heap.size w W
/-- what a round keeps -/
def KeepR (g cap m : Nat) (ys : List Int) (W W' : World) : Prop := W.grownBy W' (some g) ∧ (RowIs W g cap m ys → RowIs W' g cap m ys)
theorem keepR_below {g cap m : Nat} {ys : List Int} {W W' : World} (hb : Below W.heap.size W W') : KeepR g cap m ys W W' :=
  ⟨⟨hb.os, hb.tape, hb.output, hb.size, fun i hi _ => hb.block i hi⟩, fun h => h.below hb h.lt⟩
def sR (g cap m : Nat) (ys : List Int) (p : Value → Prop) : Sp (KeepR g cap m ys) := ⟨fun v _ => p v, fun _ _ _ _ h => h⟩
/-- a new cell that holds z -/
def sCell (g cap m : Nat) (ys : List Int) (z : Int) : Sp (KeepR g cap m ys) := ⟨fun v W => ∃ b, v = .slice (some ⟨b, 0, none⟩) 1 1 ∧ b ≠ g ∧ W.cell? ⟨b, 0, none⟩ = some (.int .i64 z), fun _ W _ hk ⟨b, hv, hne, hc⟩ => ⟨b, hv, hne, by
  rw [World.cell?_of_block (w := W) (a := ⟨b, 0, none⟩) (hk.1.block b (lt_of_cell hc) (fun e => hne (Option.some.inj e)))]
  exact hc⟩⟩
/-- the row with a pixel more -/
def sRow (g cap m : Nat) (ys : List Int) : Sp (KeepR g cap m ys) := ⟨fun v W => v = .slice (some ⟨g, 0, none⟩) m cap ∧ RowIs W g cap m ys, fun _ _ _ hk ⟨hv, hr⟩ => ⟨hv, hk.2 hr⟩⟩
theorem RasAt.below {w W W' : World} {n m : Int} {cap t : Nat} {ys : List Int} (h : RasAt w W n m cap t ys) (hb : Below W.heap.size W W') : RasAt w W' n m cap t ys :=
  ⟨(hb.block _ (Array.getElem?_eq_some_iff.1 h.1).1).trans h.1, (hb.block _ (Array.getElem?_eq_some_iff.1 h.2.1).1).trans h.2.1, h.2.2.1.below hb h.2.2.1.lt, bt0 h.2.2.2 hb (Nat.le_refl _)⟩
theorem RasAt.row {w W W' : World} {n m : Int} {cap t : Nat} {ys : List Int} (h : RasAt w W n m cap t ys) (hg : W.grownBy W' (some (w.heap.size + 1))) (hr : RowIs W' (w.heap.size + 1) cap t ys) : RasAt w W' n m cap t ys :=
  ⟨(hg.block _ (Array.getElem?_eq_some_iff.1 h.1).1 (fun e => by have := Option.some.inj e; omega)).trans h.1, (hg.block _ (Array.getElem?_eq_some_iff.1 h.2.1).1 (fun e => by have := Option.some.inj e; omega)).trans h.2.1, hr, h.2.2.2.trans (below_of_grownBy hg h.2.2.2.size (fun k e => by have := Option.some.inj e; omega))⟩
theorem rr_same {w W : World} {n m : Int} {cap t q : Nat} {ys zs : List Int} {s : Sp (KeepR (w.heap.size + 1) cap q zs)} {v : Value} (h : RasAt w W n m cap t ys) (hs : s.holds v W) : RsR (fun W => RasAt w W n m cap t ys) s W v W := ⟨h, keepR_below (Below.refl _ _), hs⟩
theorem rr_below {w W W' : World} {n m : Int} {cap t q : Nat} {ys zs : List Int} {s : Sp (KeepR (w.heap.size + 1) cap q zs)} {v : Value} (h : RasAt w W n m cap t ys) (hb : Below W.heap.size W W') (hs : s.holds v W') : RsR (fun W => RasAt w W n m cap t ys) s W v W' := ⟨h.below hb, keepR_below hb, hs⟩

/-- the grown slice is stored back -/
theorem RasAt.store {w W : World} {n m : Int} {cap t t' : Nat} {ys ys' : List Int} (h : RasAt w W n m cap t ys) (hr : RowIs W (w.heap.size + 1) cap t' ys') :
    RasAt w (W.setCell ⟨w.heap.size + 2, 2, none⟩ (.slice (some ⟨w.heap.size + 1, 0, none⟩) t' cap)) n m cap t' ys' := by
  have hg := grownBy_set W (w.heap.size + 2) 2 (.slice (some ⟨w.heap.size + 1, 0, none⟩) t' cap)
  refine ⟨(hg.block _ (Array.getElem?_eq_some_iff.1 h.1).1 (fun e => by have := Option.some.inj e; omega)).trans h.1, src_set h.2.1 2 _, ?_, Below.setCell h.2.2.2 (by dsimp only; omega) _⟩
  obtain ⟨cur, h1, h2, h3⟩ := hr
  exact ⟨cur, (hg.block _ (Array.getElem?_eq_some_iff.1 h1).1 (fun e => by have := Option.some.inj e; omega)).trans h1, h2, h3⟩
theorem heap_cellR {w : World} {g : Nat} {C : Array Value} {t : TypeId} (h : w.heap[g]? = some (.cells C t (0, 0))) : (∀ i, w.cell? ⟨g, i, none⟩ = C[i]?) ∧ (∀ i, w.frozen? ⟨g, i, none⟩ = false) := ⟨fun i => by simp [World.cell?, h], fun i => by simp [World.frozen?, h]⟩
set_option maxRecDepth 100000 in
set_option maxHeartbeats 2000000 in
theorem raster_any (K : FuncId) (fst cap : Array Value) (n m N : Nat) (F : Nat → Nat → Int) (w : World) (hN : N = n * m) (hN2 : N ≤ 40000) (hn : n ≤ 400) (hm : m ≤ 400) (hE : ∀ (args : Array Value) (W : World), (callFunc K args).run Try.prog W = .ok (.enter K args) W)
    (hK : ∀ W, Below w.heap.size w W → ∀ r c : Nat, r < n → c < m → Calls Try.prog K (fst ++ (#[.int .i64 (r : Int), .int .i64 (c : Int)] ++ cap)) W fun e W' => e = .returned (.int .i64 (F r c)) ∧ Below W.heap.size W W') :
    Calls Try.prog 68 #[.int .i64 (n : Int), .int .i64 (m : Int), .func (.func K) fst cap] w (RetRas w n m (pix F m N)) := by
  have HK := Lib.hid hK
  have HN := Lib.hid hN
  have HE := Lib.hid hE
  clear hE
  have hnm : (n : Int) * (m : Int) = (N : Int) := by rw [hN]; simp
  have hmk : ∀ w : World, (Instr.makeSlice 22 (.int .i64 0) (.int .i64 (N : Int))).run Try.prog w = .ok (.slice (some ⟨w.heap.size, 0, none⟩) 0 N) (w.alloc (.cells (madeCells #[.int .i64 0] N) 2)) := fun w => by
    obtain ⟨i0, hi, hz0, hz1, hz2⟩ := info_parts infoI
    have := run_make (P := Try.prog) w 22 2 i0 (.int .i64 0) Try.underlying22 hi hz0 .i64 .i64 0 N (by omega) (by omega) (by rw [hz2]; omega) (by omega)
    rw [hz1] at this
    simpa [Value.cells] using this
  clear hK hN
  have hw : IntKind.i64.wrap (N : Int) = N := IntWalk.i64_in _ (by omega)
  have hw6 : wrap64 (N : Int) = N := IntWalk.wrap64_in _ (by omega)
  go_enter Try.func68, Try.ntmps68
  go_wp2_with fail
  go_loopw [8, 9] (fun i _ wr => ∃ k : Nat, k ≤ n ∧ i = .int .i64 k ∧ RasAt w wr n m N (k * m) (pix F m (k * m))) (fun i _ _ => n - (intOf i).toNat)
  case atStart =>
    refine ⟨0, Nat.zero_le _, rfl, ?_⟩
    rw [Nat.zero_mul]
    refine ⟨?_, ?_, ⟨madeCells #[.int .i64 0] N, ?_, by rw [size_madeCells], rfl⟩, ba3 w _ _ _⟩
    · exact (((ba2 (w.alloc _) _ _).block _ (by simp)).trans Array.getElem?_push_size)
    · have e : ((w.alloc (.cells #[.int .i64 0, .int .i64 0, .slice none 0 0] 28 (0, 0))).alloc (.cells (madeCells #[.int .i64 0] N) 2)).heap.size = w.heap.size + 2 := by simp
      rw [← e]
      exact Array.getElem?_push_size
    · have e : (w.alloc (.cells #[.int .i64 0, .int .i64 0, .slice none 0 0] 28 (0, 0))).heap.size = w.heap.size + 1 := by simp
      rw [← e]
      exact ((ba1 ((w.alloc (.cells #[.int .i64 0, .int .i64 0, .slice none 0 0] 28 (0, 0))).alloc (.cells (madeCells #[.int .i64 0] N) 2)) _).block _ (by simp)).trans Array.getElem?_push_size
  case round =>
    clear hmk hw hw6
    obtain ⟨k, hk, rfl, hra⟩ := hrel
    have HR := Lib.hid hra
    clear hra
    by_cases hlt : k < n
    · have hkn : (k : Int) < (n : Int) := by omega
      have hkm : k * m + m ≤ N := by
        rw [HN.out]
        have h1 : k * m + m = (k + 1) * m := by rw [Nat.add_mul]; omega
        rw [h1]
        exact Nat.mul_le_mul_right m hlt
      obtain ⟨t0, ht0⟩ : ∃ t0, k * m = t0 := ⟨_, rfl⟩
      rw [ht0] at HR hkm
      have HT0 := Lib.hid ht0
      clear ht0
      obtain ⟨wo, rfl⟩ : ∃ wo : World, wo = wr := ⟨_, rfl⟩
      go_wp2_with fail
      go_loopw [9] (fun i wx => ∃ c : Nat, c ≤ m ∧ i = .int .i64 c ∧ RasAt w wx n m N (t0 + c) (pix F m (t0 + c))) (fun i _ => m - (intOf i).toNat)
      case atStart => exact ⟨0, Nat.zero_le _, rfl, HR.out⟩
      case round =>
        clear HR
        obtain ⟨c, hc, rfl, hra⟩ := hrel
        have HR := Lib.hid hra
        clear hra
        by_cases hltc : c < m
        · have hcm : (c : Int) < (m : Int) := by omega
          obtain ⟨z, hz⟩ : ∃ z, F k c = z := ⟨_, rfl⟩
          have hps : pix F m (t0 + c + 1) = pix F m (t0 + c) ++ [z] := by rw [← HT0.out, pix_succ hltc, hz]
          have HKZ := Lib.hid (show ∀ W, Below w.heap.size w W → Calls Try.prog K (fst ++ (#[.int .i64 (k : Int), .int .i64 (c : Int)] ++ cap)) W fun e W' => e = .returned (.int .i64 z) ∧ Below W.heap.size W W' from fun W hb => hz ▸ HK.out W hb k c hlt hltc)
          obtain ⟨t, ht⟩ : ∃ t, t0 + c = t := ⟨_, rfl⟩
          rw [ht] at HR hps
          have htN : t < N := by omega
          obtain ⟨ys, hys⟩ : ∃ ys, pix F m t = ys := ⟨_, rfl⟩
          rw [hys] at HR hps
          have HPS := Lib.hid hps
          have HTT := Lib.hid ht
          clear hz ht hys hps
          go_wp2_with fail
          refine wp_region_rs (Keep := KeepR (w.heap.size + 1) N (t + 1) (ys ++ [z])) [27, 28, 29, 30, 31, 32, 33, 34, 35] (fun us => _)
            [sR _ _ _ _ (· = .pointer (some ⟨w.heap.size + 2, 2, none⟩)), sR _ _ _ _ (· = .slice (some ⟨w.heap.size + 1, 0, none⟩) t N), sR _ _ _ _ (· = .func (.func K) fst cap), sR _ _ _ _ (· = .int .i64 k), sR _ _ _ _ (· = .int .i64 c), sR _ _ _ _ (· = .int .i64 z), sCell _ _ _ _ z, sRow _ _ _ _, sR _ _ _ _ (· = .pointer (some ⟨w.heap.size + 2, 2, none⟩))]
            (fun W => RasAt w W n m N t ys) (by kernel_rfl) (by kernel_rfl) (Nat.le_of_ble_eq_true rfl) (fun us => by simp [over, List.mapIdx_cons]; exact rfl) ?_ (fun w => keepR_below (Below.refl _ _)) ?_ ?_
          · exact ⟨HR.out.1, HR.out.2.1, HR.out.2.2.1, HR.out.2.2.2.drew⟩
          · refine ⟨?_, ?_, ?_, ?_, ?_, ?_, ?_, ?_, ?_, trivial⟩
            all_goals (intro us wr hst hd; rw [if_pos (by kernel_rfl)]; dsimp only)
            · clear hd
              go_simp
              exact rr_same hst rfl
            · have d27 : us 27 = .pointer (some ⟨w.heap.size + 2, 2, none⟩) := hd ⟨0, .data⟩ (by simp) rfl
              clear hd
              have hc := (heap_cellR hst.2.1).1
              go_simp
              exact rr_same hst rfl
            · clear hd
              go_simp
              exact rr_same hst rfl
            · clear hd
              go_simp
              exact rr_same hst rfl
            · clear hd
              go_simp
              exact rr_same hst rfl
            · have d29 : us 29 = .func (.func K) fst cap := hd ⟨2, .data⟩ (by simp) rfl
              have d30 : us 30 = .int .i64 k := hd ⟨3, .data⟩ (by simp) rfl
              have d31 : us 31 = .int .i64 c := hd ⟨4, .data⟩ (by simp) rfl
              clear hd
              have hE := HE.out
              go_simp
              exact (HKZ.out wr hst.2.2.2).mono fun e w' ⟨he, hb⟩ => ⟨_, he, rr_below hst hb rfl⟩
            · have d32 : us 32 = .int .i64 z := hd ⟨5, .data⟩ (by simp) rfl
              clear hd
              have hlt := hst.2.2.1.lt
              go_simp
              exact rr_below hst (ba1 _ _) ⟨wr.heap.size, rfl, by omega, by simp⟩
            · have d28 : us 28 = .slice (some ⟨w.heap.size + 1, 0, none⟩) t N := hd ⟨1, .data⟩ (by simp) rfl
              have d33 : ∃ b, us 33 = .slice (some ⟨b, 0, none⟩) 1 1 ∧ b ≠ w.heap.size + 1 ∧ wr.cell? ⟨b, 0, none⟩ = some (.int .i64 z) := hd ⟨6, .data⟩ (by simp) rfl
              clear hd
              obtain ⟨b, e33, hne, hcb⟩ := d33
              obtain ⟨W', hr, h1, h2, h3⟩ := hst.2.2.1.more htN hcb 22
              exact leaves_append_room (.tmp 28) (.tmp 33) 22 rfl _ _ d28 e33 _ W' hr ⟨hst.row h3 h1, ⟨h3, fun _ => h2⟩, rfl, h2⟩
            · clear hd
              go_simp
              exact rr_same hst rfl
          · intro us wr hst hd
            have d34 : us 34 = .slice (some ⟨w.heap.size + 1, 0, none⟩) (t + 1) N ∧ RowIs wr (w.heap.size + 1) N (t + 1) (ys ++ [z]) := hd 7 (by simp)
            have d35 : us 35 = .pointer (some ⟨w.heap.size + 2, 2, none⟩) := hd 8 (by simp)
            clear hd
            obtain ⟨e34, hrow⟩ := d34
            obtain ⟨hcc, hff⟩ := heap_cellR hst.2.1
            have HS := Lib.hid (hst.store hrow)
            clear hst hrow
            simp only [List.drop, List.length]
            rw [e34, d35]
            go_wp2_with fail
            exact ⟨⟨c + 1, by omega, by go_num, by rw [← Nat.add_assoc, HTT.out, HPS.out]; exact HS.out⟩, by simp [intOf]; omega⟩
        · obtain rfl : c = m := by omega
          have hre : t0 + c = (k + 1) * c := by rw [Nat.add_mul, HT0.out]; omega
          have hra := HR.out
          rw [hre] at hra
          have HR2 := Lib.hid hra
          clear hra hre HR
          go_wp2_with fail
          exact ⟨⟨k + 1, by omega, by go_num, HR2.out⟩, by simp [intOf]; omega⟩
    · obtain rfl : k = n := by omega
      obtain ⟨hr1, hr2, hr3, hr4⟩ := HR.out
      obtain ⟨hc1, hf1⟩ := heap_cellR hr1
      obtain ⟨hc2, _⟩ := heap_cellR hr2
      have hrow := hr3
      rw [← HN.out] at hrow hc2
      have hown := hrow.own (pix_len F m N) (Nat.le_refl _) (by unfold maxLen; omega)
      have HO := Lib.hid hown
      have HB := Lib.hid hr4
      clear hr1 hr2 hr3 hr4 hrow hown HR
      go_wp2_with fail
      refine bodyPost_ret (v := .agg #[.int .i64 k, .int .i64 m, .slice (some ⟨w.heap.size + 1, 0, none⟩) N N]) (by simp [results, Try.results68, go_sem, hc1]) rfl ⟨some ⟨w.heap.size + 1, 0, none⟩, N, by rw [pix_len], ?_, ?_⟩
      · rw [pix_len] at HO ⊢
        refine OwnI.weak (base := w.heap.size + 1) ?_ (by omega)
        iterate 3 (refine OwnI.setOld ?_ (by dsimp only; omega) _)
        exact HO.out
      · iterate 3 (refine Below.setCell ?_ (by dsimp only; omega) _)
        exact HB.out

end Go.Proofs.Ythnjfdhijpfekaa
