import Derived.Test.YthnjfdhijpfekaaM0
import Derived.Laws.EntriesVeiled
import Derived.Outline
namespace Go.Proofs.Ythnjfdhijpfekaa
open Go.RowKit

theorem boxF0 (w : World) (A : Array Value) (t : TypeId) (i : Nat) : (w.alloc (.cells A t (0, 0))).cell? ⟨w.heap.size, i, none⟩ = A[i]? := by simp
theorem boxF1 (w : World) (A : Array Value) (t : TypeId) (i : Nat) : (w.alloc (.cells A t (0, 0))).frozen? ⟨w.heap.size, i, none⟩ = false := by simp
/-- two new blocks' cells, behind a call -/
theorem box2s {w w1 : World} {A B : Array Value} {t u : TypeId} (hb : Below ((w.alloc (.cells A t (0, 0))).alloc (.cells B u (0, 0))).heap.size ((w.alloc (.cells A t (0, 0))).alloc (.cells B u (0, 0))) w1) :
    (∀ i, w1.cell? ⟨w.heap.size, i, none⟩ = A[i]?) ∧ (∀ i, w1.cell? ⟨w.heap.size + 1, i, none⟩ = B[i]?) ∧ (∀ i, w1.frozen? ⟨w.heap.size + 1, i, none⟩ = false) := by
  refine ⟨fun i => ?_, fun i => ?_, fun i => ?_⟩
  · rw [hb.cell (p := ⟨w.heap.size, i, none⟩) (by simp only [World.size_alloc]; omega)]; simp
  · rw [hb.cell (p := ⟨w.heap.size + 1, i, none⟩) (by simp only [World.size_alloc]; omega)]; simp
  · rw [hb.frozen (p := ⟨w.heap.size + 1, i, none⟩) (by simp only [World.size_alloc]; omega)]; simp
/-- three new blocks' cells, behind a call -/
theorem box3s {w w1 : World} {A B C : Array Value} {t u v : TypeId} (hb : Below (((w.alloc (.cells A t (0, 0))).alloc (.cells B u (0, 0))).alloc (.cells C v (0, 0))).heap.size (((w.alloc (.cells A t (0, 0))).alloc (.cells B u (0, 0))).alloc (.cells C v (0, 0))) w1) :
    (∀ i, w1.cell? ⟨w.heap.size, i, none⟩ = A[i]?) ∧ (∀ i, w1.cell? ⟨w.heap.size + 1, i, none⟩ = B[i]?) ∧ (∀ i, w1.cell? ⟨w.heap.size + 1 + 1, i, none⟩ = C[i]?) ∧ (∀ i, w1.frozen? ⟨w.heap.size + 1 + 1, i, none⟩ = false) ∧ w.heap.size + 1 + 1 < w1.heap.size := by
  refine ⟨fun i => ?_, fun i => ?_, fun i => ?_, fun i => ?_, ?_⟩
  · rw [hb.cell (p := ⟨w.heap.size, i, none⟩) (by simp only [World.size_alloc]; omega), (ba2 (w.alloc (.cells A t (0, 0))) _ _).cell (p := ⟨w.heap.size, i, none⟩) (by simp)]; simp
  · have h := (ba1 ((w.alloc (.cells A t (0, 0))).alloc (.cells B u (0, 0))) (.cells C v (0, 0))).cell (p := ⟨w.heap.size + 1, i, none⟩) (by simp)
    rw [hb.cell (p := ⟨w.heap.size + 1, i, none⟩) (by simp only [World.size_alloc]; omega), h]
    simp
  · rw [hb.cell (p := ⟨w.heap.size + 1 + 1, i, none⟩) (by simp only [World.size_alloc]; omega)]
    have := boxF0 ((w.alloc (.cells A t (0, 0))).alloc (.cells B u (0, 0))) C v i
    simpa using this
  · rw [hb.frozen (p := ⟨w.heap.size + 1 + 1, i, none⟩) (by simp only [World.size_alloc]; omega)]
    have := boxF1 ((w.alloc (.cells A t (0, 0))).alloc (.cells B u (0, 0))) C v i
    simpa using this
  · have := hb.size; simp at this; omega
/-- a block's marks, behind a call -/
theorem freeK {w w1 : World} {b : Nat} (hb : Below w.heap.size w w1) (h : ∀ i, w.frozen? ⟨b, i, none⟩ = false) (h0 : b < w.heap.size) : ∀ i, w1.frozen? ⟨b, i, none⟩ = false := fun i => by
  rw [hb.frozen (p := ⟨b, i, none⟩) h0]; exact h i

/-- a block's cells, where less is kept -/
theorem boxB {w w1 : World} {B b : Nat} {cs : Array Value} (hb : Below B w w1) (h : ∀ i, w.cell? ⟨b, i, none⟩ = cs[i]?) (h0 : b < B) : ∀ i, w1.cell? ⟨b, i, none⟩ = cs[i]? := fun i => by
  rw [hb.cell (p := ⟨b, i, none⟩) h0]; exact h i
theorem freeB {w w1 : World} {B b : Nat} (hb : Below B w w1) (h : ∀ i, w.frozen? ⟨b, i, none⟩ = false) (h0 : b < B) : ∀ i, w1.frozen? ⟨b, i, none⟩ = false := fun i => by
  rw [hb.frozen (p := ⟨b, i, none⟩) h0]; exact h i

end Go.Proofs.Ythnjfdhijpfekaa
namespace Go.Proofs.Ythnjfdhijpfekaa
open Go.RowKit

theorem leaves_append_room {P : Program} {o : Oper} {a : Act} {w : World} {R : Value → World → Prop} (s x : Operand) (t : TypeId) (ho : o.op = .call { callee := .builtin .append, args := #[s, x], argTypes := #[t, t] }) (v u : Value) (hs : a.eval s = v) (hx : a.eval x = u)
    (v' : Value) (w' : World) (hr : (Builtin.append_ #[t, t] o.type #[v, u]).run P w = .ok v' w') (hR : R v' w') : leaves P o a w R := by
  unfold leaves execOp
  simp only [ho, resolve, invoke, builtin, Sem.run_bind, Sem.run_pure, Result.andThen_ok, List.map_toArray, List.map_cons, List.map_nil, hs, hx, hr]
  exact hR

/-- the first m cells of row g are ys -/
def RowIs (W : World) (g cap m : Nat) (ys : List Int) : Prop := ∃ cur : Array Value, W.heap[g]? = some (.cells cur 2 (0, 0)) ∧ cur.size = cap ∧ cur.toList.take m = ys.map (Value.int .i64)
theorem RowIs.below {W W' : World} {g cap m B : Nat} {ys : List Int} (h : RowIs W g cap m ys) (hb : Below B W W') (hg : g < B) : RowIs W' g cap m ys := by
  obtain ⟨cur, h1, h2, h3⟩ := h
  exact ⟨cur, (hb.block g hg).trans h1, h2, h3⟩
theorem RowIs.lt {W : World} {g cap m : Nat} {ys : List Int} (h : RowIs W g cap m ys) : g < W.heap.size := by
  obtain ⟨cur, h1, _⟩ := h
  exact (Array.getElem?_eq_some_iff.1 h1).1
theorem RowIs.own {W : World} {g cap m : Nat} {ys : List Int} (h : RowIs W g cap m ys) (hl : ys.length = m) (hm : m ≤ cap) (hc : cap ≤ maxLen) : OwnI W g (.slice (some ⟨g, 0, none⟩) ys.length cap) ys := by
  obtain ⟨cur, h1, h2, h3⟩ := h
  exact ⟨by simp, Or.inr ⟨g, cap, cur, rfl, Nat.le_refl _, h1, by omega, hc, by omega, by rw [Nat.mul_one, hl]; exact h3⟩⟩
/-- one pixel more -/
theorem RowIs.more {W : World} {g cap m : Nat} {ys : List Int} {z : Int} {b : Nat} (h : RowIs W g cap m ys) (hm : m < cap) (hz : W.cell? ⟨b, 0, none⟩ = some (.int .i64 z)) (ty : TypeId) :
    ∃ W', (Builtin.append_ #[22, 22] ty #[.slice (some ⟨g, 0, none⟩) m cap, .slice (some ⟨b, 0, none⟩) 1 1]).run Try.prog W = .ok (.slice (some ⟨g, 0, none⟩) (m + 1) cap) W' ∧ RowIs W' g cap m ys ∧ RowIs W' g cap (m + 1) (ys ++ [z]) ∧ W.grownBy W' (some g) := by
  obtain ⟨cur, h1, h2, h3⟩ := h
  obtain ⟨i0, hi, y0, y1, y2⟩ := info_parts infoI
  have hr := run_append_room (P := Try.prog) W 22 ty 2 i0 Try.underlying22 hi g m cap cur h1 ⟨b, 0, none⟩ 1 1 [.int .i64 z] (by rw [y1]; rfl)
    (fun j u hj => by
      match j, hj with
      | 0, hj => simp at hj; subst hj; simpa [Addr.add] using hz
      | j + 1, hj => simp at hj) (fun u hu => by rw [List.mem_singleton] at hu; subst hu; rfl) hm (by rw [y1]; simp; omega)
  rw [y1, Nat.mul_one] at hr
  have hlen : cur.toList.length = cap := by simpa using h2
  have hrow := setRow_heap W g cur (cur.toList.take m ++ [Value.int .i64 z] ++ cur.toList.drop (m + 1)).toArray 2 (0, 0) h1
  have hsz : (cur.toList.take m ++ [Value.int .i64 z] ++ cur.toList.drop (m + 1)).toArray.size = cap := by
    simp only [List.size_toArray, List.length_append, List.length_take, List.length_drop, List.length_singleton]
    omega
  have htl : (cur.toList.take m).length = m := by rw [List.length_take]; omega
  refine ⟨_, hr, ⟨_, hrow, hsz, ?_⟩, ⟨_, hrow, hsz, ?_⟩, ⟨rfl, rfl, rfl, by simp, fun k _ hk => setRow_other W g k _ (fun e => hk (by rw [e]))⟩⟩
  · rw [List.append_assoc, List.take_append_of_le_length (by omega), List.take_of_length_le (by omega)]
    exact h3
  · rw [List.take_append_of_le_length (by simp; omega), List.take_of_length_le (by simp; omega), h3, List.map_append]
    rfl

/-- a raster is handed back -/
def RetRas (w : World) (n m : Int) (xs : List Int) (e : Ending) (w' : World) : Prop :=
  ∃ a c, e = .returned (.agg #[.int .i64 n, .int .i64 m, .slice a xs.length c]) ∧ OwnI w' w.heap.size (.slice a xs.length c) xs ∧ Below w.heap.size w w'
/-- the first t pixels -/
def pix (F : Nat → Nat → Int) (m t : Nat) : List Int := (List.range t).map fun i => F (i / m) (i % m)
theorem pix_len (F : Nat → Nat → Int) (m t : Nat) : (pix F m t).length = t := by simp [pix]
theorem pix_succ {F : Nat → Nat → Int} {m k j : Nat} (hj : j < m) : pix F m (k * m + j + 1) = pix F m (k * m + j) ++ [F k j] := by
  unfold pix
  have h1 : (k * m + j) / m = k := by rw [Nat.mul_comm, Nat.mul_add_div (by omega), Nat.div_eq_of_lt hj]; omega
  have h2 : (k * m + j) % m = j := by rw [Nat.mul_comm, Nat.mul_add_mod, Nat.mod_eq_of_lt hj]
  rw [List.range_succ, List.map_append]
  simp [h1, h2]

/-- while a raster is made -/
def RasAt (w W : World) (n m : Int) (cap t : Nat) (ys : List Int) : Prop :=
  W.heap[w.heap.size]? = some (.cells #[.int .i64 0, .int .i64 0, .slice none 0 0] 28 (0, 0)) ∧ W.heap[w.heap.size + 2]? = some (.cells #[.int .i64 n, .int .i64 m, .slice (some ⟨w.heap.size + 1, 0, none⟩) t cap] 28 (0, 0)) ∧
    RowIs W (w.heap.size + 1) cap t ys ∧ Below w.heap.size w W
/-- what a round keeps -/
def KeepR (g cap m : Nat) (ys : List Int) (W W' : World) : Prop := W.grownBy W' (some g) ∧ (RowIs W g cap m ys → RowIs W' g cap m ys)
theorem keepR_below {g cap m : Nat} {ys : List Int} {W W' : World} (hb : Below W.heap.size W W') : KeepR g cap m ys W W' :=
  ⟨⟨hb.os, hb.tape, hb.output, hb.size, fun i hi _ => hb.block i hi⟩, fun h => h.below hb h.lt⟩
def sR (g cap m : Nat) (ys : List Int) (p : Value → Prop) : Sp (KeepR g cap m ys) := ⟨fun v _ => p v, fun _ _ _ _ h => h⟩
/-- a new cell that holds z -/
def sCell (g cap m : Nat) (ys : List Int) (z : Int) : Sp (KeepR g cap m ys) := ⟨fun v W => ∃ b, v = .slice (some ⟨b, 0, none⟩) 1 1 ∧ b ≠ g ∧ W.cell? ⟨b, 0, none⟩ = some (.int .i64 z), fun _ W _ hk ⟨b, hv, hne, hc⟩ => ⟨b, hv, hne, by
  rw [World.cell?_of_block (w := W) (a := ⟨b, 0, none⟩) (hk.1.block b (lt_of_cell hc) (fun e => hne (Option.some.inj e)))]
  exact hc⟩⟩
/-- the row with a pixel more -/
def sRow (g cap m : Nat) (ys : List Int) : Sp (KeepR g cap m ys) := ⟨fun v W => v = .slice (some ⟨g, 0, none⟩) m cap ∧ RowIs W g cap m ys, fun _ _ _ hk ⟨hv, hr⟩ => ⟨hv, hk.2 hr⟩⟩
theorem RasAt.below {w W W' : World} {n m : Int} {cap t : Nat} {ys : List Int} (h : RasAt w W n m cap t ys) (hb : Below W.heap.size W W') : RasAt w W' n m cap t ys :=
  ⟨(hb.block _ (Array.getElem?_eq_some_iff.1 h.1).1).trans h.1, (hb.block _ (Array.getElem?_eq_some_iff.1 h.2.1).1).trans h.2.1, h.2.2.1.below hb h.2.2.1.lt, bt0 h.2.2.2 hb (Nat.le_refl _)⟩
theorem RasAt.row {w W W' : World} {n m : Int} {cap t : Nat} {ys : List Int} (h : RasAt w W n m cap t ys) (hg : W.grownBy W' (some (w.heap.size + 1))) (hr : RowIs W' (w.heap.size + 1) cap t ys) : RasAt w W' n m cap t ys :=
  ⟨(hg.block _ (Array.getElem?_eq_some_iff.1 h.1).1 (fun e => by have := Option.some.inj e; omega)).trans h.1, (hg.block _ (Array.getElem?_eq_some_iff.1 h.2.1).1 (fun e => by have := Option.some.inj e; omega)).trans h.2.1, hr, h.2.2.2.trans (below_of_grownBy hg h.2.2.2.size (fun k e => by have := Option.some.inj e; omega))⟩
theorem rr_same {w W : World} {n m : Int} {cap t q : Nat} {ys zs : List Int} {s : Sp (KeepR (w.heap.size + 1) cap q zs)} {v : Value} (h : RasAt w W n m cap t ys) (hs : s.holds v W) : RsR (fun W => RasAt w W n m cap t ys) s W v W := ⟨h, keepR_below (Below.refl _ _), hs⟩
theorem rr_below {w W W' : World} {n m : Int} {cap t q : Nat} {ys zs : List Int} {s : Sp (KeepR (w.heap.size + 1) cap q zs)} {v : Value} (h : RasAt w W n m cap t ys) (hb : Below W.heap.size W W') (hs : s.holds v W') : RsR (fun W => RasAt w W n m cap t ys) s W v W' := ⟨h.below hb, keepR_below hb, hs⟩

/-- the grown slice is stored back -/
theorem RasAt.store {w W : World} {n m : Int} {cap t t' : Nat} {ys ys' : List Int} (h : RasAt w W n m cap t ys) (hr : RowIs W (w.heap.size + 1) cap t' ys') :
    RasAt w (W.setCell ⟨w.heap.size + 2, 2, none⟩ (.slice (some ⟨w.heap.size + 1, 0, none⟩) t' cap)) n m cap t' ys' := by
  have hg := grownBy_set W (w.heap.size + 2) 2 (.slice (some ⟨w.heap.size + 1, 0, none⟩) t' cap)
  refine ⟨(hg.block _ (Array.getElem?_eq_some_iff.1 h.1).1 (fun e => by have := Option.some.inj e; omega)).trans h.1, src_set h.2.1 2 _, ?_, Below.setCell h.2.2.2 (by dsimp only; omega) _⟩
  obtain ⟨cur, h1, h2, h3⟩ := hr
  exact ⟨cur, (hg.block _ (Array.getElem?_eq_some_iff.1 h1).1 (fun e => by have := Option.some.inj e; omega)).trans h1, h2, h3⟩
theorem heap_cellR {w : World} {g : Nat} {C : Array Value} {t : TypeId} (h : w.heap[g]? = some (.cells C t (0, 0))) : (∀ i, w.cell? ⟨g, i, none⟩ = C[i]?) ∧ (∀ i, w.frozen? ⟨g, i, none⟩ = false) := ⟨fun i => by simp [World.cell?, h], fun i => by simp [World.frozen?, h]⟩
set_option maxRecDepth 100000 in
set_option maxHeartbeats 2000000 in
theorem raster_any (K : FuncId) (fst cap : Array Value) (n m N : Nat) (F : Nat → Nat → Int) (w : World) (hN : N = n * m) (hN2 : N ≤ 40000) (hn : n ≤ 400) (hm : m ≤ 400) (hE : ∀ (args : Array Value) (W : World), (callFunc K args).run Try.prog W = .ok (.enter K args) W)
    (hK : ∀ W, Below w.heap.size w W → ∀ r c : Nat, r < n → c < m → Calls Try.prog K (fst ++ (#[.int .i64 (r : Int), .int .i64 (c : Int)] ++ cap)) W fun e W' => e = .returned (.int .i64 (F r c)) ∧ Below W.heap.size W W') :
    Calls Try.prog 68 #[.int .i64 (n : Int), .int .i64 (m : Int), .func (.func K) fst cap] w (RetRas w n m (pix F m N)) := by
  have HK := Lib.hid hK
  have HN := Lib.hid hN
  have HE := Lib.hid hE
  clear hE
  have hnm : (n : Int) * (m : Int) = (N : Int) := by rw [hN]; simp
  have hmk : ∀ w : World, (Instr.makeSlice 22 (.int .i64 0) (.int .i64 (N : Int))).run Try.prog w = .ok (.slice (some ⟨w.heap.size, 0, none⟩) 0 N) (w.alloc (.cells (madeCells #[.int .i64 0] N) 2)) := fun w => by
    obtain ⟨i0, hi, hz0, hz1, hz2⟩ := info_parts infoI
    have := run_make (P := Try.prog) w 22 2 i0 (.int .i64 0) Try.underlying22 hi hz0 .i64 .i64 0 N (by omega) (by omega) (by rw [hz2]; omega) (by omega)
    rw [hz1] at this
    simpa [Value.cells] using this
  clear hK hN
  have hw : IntKind.i64.wrap (N : Int) = N := IntWalk.i64_in _ (by omega)
  have hw6 : wrap64 (N : Int) = N := IntWalk.wrap64_in _ (by omega)
  go_enter Try.func68, Try.ntmps68
  go_wp2_with fail
  go_loopw [8, 9] (fun i _ wr => ∃ k : Nat, k ≤ n ∧ i = .int .i64 k ∧ RasAt w wr n m N (k * m) (pix F m (k * m))) (fun i _ _ => n - (intOf i).toNat)
  case atStart =>
    refine ⟨0, Nat.zero_le _, rfl, ?_⟩
    rw [Nat.zero_mul]
    refine ⟨?_, ?_, ⟨madeCells #[.int .i64 0] N, ?_, by rw [size_madeCells], rfl⟩, ba3 w _ _ _⟩
    · exact (((ba2 (w.alloc _) _ _).block _ (by simp)).trans Array.getElem?_push_size)
    · have e : ((w.alloc (.cells #[.int .i64 0, .int .i64 0, .slice none 0 0] 28 (0, 0))).alloc (.cells (madeCells #[.int .i64 0] N) 2)).heap.size = w.heap.size + 2 := by simp
      rw [← e]
      exact Array.getElem?_push_size
    · have e : (w.alloc (.cells #[.int .i64 0, .int .i64 0, .slice none 0 0] 28 (0, 0))).heap.size = w.heap.size + 1 := by simp
      rw [← e]
      exact ((ba1 ((w.alloc (.cells #[.int .i64 0, .int .i64 0, .slice none 0 0] 28 (0, 0))).alloc (.cells (madeCells #[.int .i64 0] N) 2)) _).block _ (by simp)).trans Array.getElem?_push_size
  case round =>
    clear hmk hw hw6
    obtain ⟨k, hk, rfl, hra⟩ := hrel
    have HR := Lib.hid hra
    clear hra
    by_cases hlt : k < n
    · have hkn : (k : Int) < (n : Int) := by omega
      have hkm : k * m + m ≤ N := by
        rw [HN.out]
        have h1 : k * m + m = (k + 1) * m := by rw [Nat.add_mul]; omega
        rw [h1]
        exact Nat.mul_le_mul_right m hlt
      obtain ⟨t0, ht0⟩ : ∃ t0, k * m = t0 := ⟨_, rfl⟩
      rw [ht0] at HR hkm
      have HT0 := Lib.hid ht0
      clear ht0
      obtain ⟨wo, rfl⟩ : ∃ wo : World, wo = wr := ⟨_, rfl⟩
      go_wp2_with fail
      go_loopw [9] (fun i wx => ∃ c : Nat, c ≤ m ∧ i = .int .i64 c ∧ RasAt w wx n m N (t0 + c) (pix F m (t0 + c))) (fun i _ => m - (intOf i).toNat)
      case atStart => exact ⟨0, Nat.zero_le _, rfl, HR.out⟩
      case round =>
        clear HR
        obtain ⟨c, hc, rfl, hra⟩ := hrel
        have HR := Lib.hid hra
        clear hra
        by_cases hltc : c < m
        · have hcm : (c : Int) < (m : Int) := by omega
          obtain ⟨z, hz⟩ : ∃ z, F k c = z := ⟨_, rfl⟩
          have hps : pix F m (t0 + c + 1) = pix F m (t0 + c) ++ [z] := by rw [← HT0.out, pix_succ hltc, hz]
          have HKZ := Lib.hid (show ∀ W, Below w.heap.size w W → Calls Try.prog K (fst ++ (#[.int .i64 (k : Int), .int .i64 (c : Int)] ++ cap)) W fun e W' => e = .returned (.int .i64 z) ∧ Below W.heap.size W W' from fun W hb => hz ▸ HK.out W hb k c hlt hltc)
          obtain ⟨t, ht⟩ : ∃ t, t0 + c = t := ⟨_, rfl⟩
          rw [ht] at HR hps
          have htN : t < N := by omega
          obtain ⟨ys, hys⟩ : ∃ ys, pix F m t = ys := ⟨_, rfl⟩
          rw [hys] at HR hps
          have HPS := Lib.hid hps
          have HTT := Lib.hid ht
          clear hz ht hys hps
          go_wp2_with fail
          refine wp_region_rs (Keep := KeepR (w.heap.size + 1) N (t + 1) (ys ++ [z])) [27, 28, 29, 30, 31, 32, 33, 34, 35] (fun us => _)
            [sR _ _ _ _ (· = .pointer (some ⟨w.heap.size + 2, 2, none⟩)), sR _ _ _ _ (· = .slice (some ⟨w.heap.size + 1, 0, none⟩) t N), sR _ _ _ _ (· = .func (.func K) fst cap), sR _ _ _ _ (· = .int .i64 k), sR _ _ _ _ (· = .int .i64 c), sR _ _ _ _ (· = .int .i64 z), sCell _ _ _ _ z, sRow _ _ _ _, sR _ _ _ _ (· = .pointer (some ⟨w.heap.size + 2, 2, none⟩))]
            (fun W => RasAt w W n m N t ys) (by kernel_rfl) (by kernel_rfl) (Nat.le_of_ble_eq_true rfl) (fun us => by simp [over, List.mapIdx_cons]; exact rfl) ?_ (fun w => keepR_below (Below.refl _ _)) ?_ ?_
          · exact ⟨HR.out.1, HR.out.2.1, HR.out.2.2.1, HR.out.2.2.2.drew⟩
          · refine ⟨?_, ?_, ?_, ?_, ?_, ?_, ?_, ?_, ?_, trivial⟩
            all_goals (intro us wr hst hd; rw [if_pos (by kernel_rfl)]; dsimp only)
            · clear hd
              go_simp
              exact rr_same hst rfl
            · have d27 : us 27 = .pointer (some ⟨w.heap.size + 2, 2, none⟩) := hd ⟨0, .data⟩ (by simp) rfl
              clear hd
              have hc := (heap_cellR hst.2.1).1
              go_simp
              exact rr_same hst rfl
            · clear hd
              go_simp
              exact rr_same hst rfl
            · clear hd
              go_simp
              exact rr_same hst rfl
            · clear hd
              go_simp
              exact rr_same hst rfl
            · have d29 : us 29 = .func (.func K) fst cap := hd ⟨2, .data⟩ (by simp) rfl
              have d30 : us 30 = .int .i64 k := hd ⟨3, .data⟩ (by simp) rfl
              have d31 : us 31 = .int .i64 c := hd ⟨4, .data⟩ (by simp) rfl
              clear hd
              have hE := HE.out
              go_simp
              exact (HKZ.out wr hst.2.2.2).mono fun e w' ⟨he, hb⟩ => ⟨_, he, rr_below hst hb rfl⟩
            · have d32 : us 32 = .int .i64 z := hd ⟨5, .data⟩ (by simp) rfl
              clear hd
              have hlt := hst.2.2.1.lt
              go_simp
              exact rr_below hst (ba1 _ _) ⟨wr.heap.size, rfl, by omega, by simp⟩
            · have d28 : us 28 = .slice (some ⟨w.heap.size + 1, 0, none⟩) t N := hd ⟨1, .data⟩ (by simp) rfl
              have d33 : ∃ b, us 33 = .slice (some ⟨b, 0, none⟩) 1 1 ∧ b ≠ w.heap.size + 1 ∧ wr.cell? ⟨b, 0, none⟩ = some (.int .i64 z) := hd ⟨6, .data⟩ (by simp) rfl
              clear hd
              obtain ⟨b, e33, hne, hcb⟩ := d33
              obtain ⟨W', hr, h1, h2, h3⟩ := hst.2.2.1.more htN hcb 22
              exact leaves_append_room (.tmp 28) (.tmp 33) 22 rfl _ _ d28 e33 _ W' hr ⟨hst.row h3 h1, ⟨h3, fun _ => h2⟩, rfl, h2⟩
            · clear hd
              go_simp
              exact rr_same hst rfl
          · intro us wr hst hd
            have d34 : us 34 = .slice (some ⟨w.heap.size + 1, 0, none⟩) (t + 1) N ∧ RowIs wr (w.heap.size + 1) N (t + 1) (ys ++ [z]) := hd 7 (by simp)
            have d35 : us 35 = .pointer (some ⟨w.heap.size + 2, 2, none⟩) := hd 8 (by simp)
            clear hd
            obtain ⟨e34, hrow⟩ := d34
            obtain ⟨hcc, hff⟩ := heap_cellR hst.2.1
            have HS := Lib.hid (hst.store hrow)
            clear hst hrow
            simp only [List.drop, List.length]
            rw [e34, d35]
            go_wp2_with fail
            exact ⟨⟨c + 1, by omega, by go_num, by rw [← Nat.add_assoc, HTT.out, HPS.out]; exact HS.out⟩, by simp [intOf]; omega⟩
        · obtain rfl : c = m := by omega
          have hre : t0 + c = (k + 1) * c := by rw [Nat.add_mul, HT0.out]; omega
          have hra := HR.out
          rw [hre] at hra
          have HR2 := Lib.hid hra
          clear hra hre HR
          go_wp2_with fail
          exact ⟨⟨k + 1, by omega, by go_num, HR2.out⟩, by simp [intOf]; omega⟩
    · obtain rfl : k = n := by omega
      obtain ⟨hr1, hr2, hr3, hr4⟩ := HR.out
      obtain ⟨hc1, hf1⟩ := heap_cellR hr1
      obtain ⟨hc2, _⟩ := heap_cellR hr2
      have hrow := hr3
      rw [← HN.out] at hrow hc2
      have hown := hrow.own (pix_len F m N) (Nat.le_refl _) (by unfold maxLen; omega)
      have HO := Lib.hid hown
      have HB := Lib.hid hr4
      clear hr1 hr2 hr3 hr4 hrow hown HR
      go_wp2_with fail
      refine bodyPost_ret (v := .agg #[.int .i64 k, .int .i64 m, .slice (some ⟨w.heap.size + 1, 0, none⟩) N N]) (by simp [results, Try.results68, go_sem, hc1]) rfl ⟨some ⟨w.heap.size + 1, 0, none⟩, N, by rw [pix_len], ?_, ?_⟩
      · rw [pix_len] at HO ⊢
        refine OwnI.weak (base := w.heap.size + 1) ?_ (by omega)
        iterate 3 (refine OwnI.setOld ?_ (by dsimp only; omega) _)
        exact HO.out
      · iterate 3 (refine Below.setCell ?_ (by dsimp only; omega) _)
        exact HB.out

end Go.Proofs.Ythnjfdhijpfekaa
namespace Go.Proofs.Ythnjfdhijpfekaa
open Go.RowKit

/-- low <= n <= high -/
def inB (n lo hi : Int) : Bool := decide (lo ≤ n ∧ n ≤ hi)
theorem inB_iff {n lo hi : Int} : inB n lo hi = true ↔ lo ≤ n ∧ n ≤ hi := by simp [inB]
theorem inB_not {n lo hi : Int} : inB n lo hi = false ↔ n < lo ∨ hi < n := by simp [inB]; omega

set_option maxHeartbeats 400000 in
theorem inRange_any (n lo hi : Int) (w : World) :
    Calls Try.prog 48 #[.int .i64 n, .int .i64 lo, .int .i64 hi] w fun e w' => e = .returned (.bool (inB n lo hi)) ∧ w = w' := by
  have e : inB n lo hi = (decide (lo ≤ n) && decide (n ≤ hi)) := by simp [inB]
  rw [e]
  clear e
  go_enter Try.func48, Try.ntmps48
  go_wp2
  all_goals go_ret
  all_goals exact ⟨ret_bool (by simp; try omega), rfl⟩

set_option maxHeartbeats 400000 in
theorem l01In_any (n lo hi : Int) (w : World) :
    Calls Try.prog 74 #[.int .i64 n, .int .i64 lo, .int .i64 hi] w fun e w' => e = .returned (.bool (inB n lo hi)) ∧ w = w' := by
  have e : inB n lo hi = (decide (lo ≤ n) && decide (n ≤ hi)) := by simp [inB]
  rw [e]
  clear e
  go_enter Try.func74, Try.ntmps74
  go_wp2
  all_goals go_ret
  all_goals exact ⟨ret_bool (by simp; try omega), rfl⟩

theorem inRange_val {n lo hi : Int} {b : Bool} {w : World} (h : inB n lo hi = b) :
    Calls Try.prog 48 #[.int .i64 n, .int .i64 lo, .int .i64 hi] w fun e w' => e = .returned (.bool b) ∧ w = w' := h ▸ inRange_any n lo hi w
theorem l01In_val {n lo hi : Int} {b : Bool} {w : World} (h : inB n lo hi = b) :
    Calls Try.prog 74 #[.int .i64 n, .int .i64 lo, .int .i64 hi] w fun e w' => e = .returned (.bool b) ∧ w = w' := h ▸ l01In_any n lo hi w

end Go.Proofs.Ythnjfdhijpfekaa
namespace Go.Proofs.Ythnjfdhijpfekaa
open Go.RowKit

set_option maxHeartbeats 400000 in
theorem pixel_val {a : Option Addr} {xs : List Int} {cp n m r c i : Nat} {z : Int} {w : World} (hi : r * m + c = i) (hz : xs[i]? = some z) (hx : IntsAt w a xs) (_hr : r ≤ 400) (_hc : c ≤ 400) (hl : xs.length ≤ 1099511627776) :
    Calls Try.prog 71 #[.agg #[.int .i64 (n : Int), .int .i64 (m : Int), .slice a xs.length cp], .int .i64 (r : Int), .int .i64 (c : Int)] w fun e w' => e = .returned (.int .i64 z) ∧ Below w.heap.size w w' := by
  have hlt : i < xs.length := (List.getElem?_eq_some_iff.1 hz).1
  obtain ⟨b, o, z', rfl, hz', hb, hcl⟩ := hx.at hlt
  obtain rfl : z = z' := Option.some.inj (hz.symm.trans hz')
  obtain ⟨q, hq⟩ : ∃ q, r * m = q := ⟨_, rfl⟩
  have hrm : (r : Int) * (m : Int) = (q : Int) := by rw [← hq]; simp
  have hqi : (q : Int) + (c : Int) = (i : Int) := by omega
  have hil : (i : Int) < (xs.length : Int) := by omega
  have w1 : wrap64 (q : Int) = q := IntWalk.wrap64_in _ (by omega)
  have w2 : wrap64 (i : Int) = i := IntWalk.wrap64_in _ (by omega)
  have hcw : (w.alloc (.cells #[.int .i64 (n : Int), .int .i64 (m : Int), .slice (some ⟨b, o, none⟩) xs.length cp] 28 (0, 0))).cell? ⟨b, o + i, none⟩ = some (.int .i64 z) := by
    rw [(ba1 w _).cell (p := ⟨b, o + i, none⟩) hb]; exact hcl
  clear hz hz' hx hcl hq hi
  go_enter Try.func71, Try.ntmps71
  go_wp2_with fail
  go_ret
  exact ⟨rfl, ba1 _ _⟩

theorem enter_of {K : FuncId} (h : ∀ (args : Array Value) (W : World), (callFunc K args).run Try.prog W = .ok (.enter K args) W) : ∀ (args : Array Value) (W : World), (callFunc K args).run Try.prog W = .ok (.enter K args) W := h
theorem pixel_enter : ∀ (args : Array Value) (W : World), (callFunc 71 args).run Try.prog W = .ok (.enter 71 args) W := fun args W => by kernel_rfl

theorem run_makeFunc'' (P : Program) (fn : Fn) (fst cap : Array Value) (w : World) : (Instr.makeFunc fn fst cap).run P w = .ok (.func fn fst cap) w := rfl
/-- the pixels as they are -/
theorem pix_id {xs : List Int} {n m : Nat} (hl : xs.length = n * m) : pix (fun r c => xs.getD (r * m + c) 0) m (n * m) = xs := by
  apply List.ext_getElem?
  intro i
  unfold pix
  rw [List.getElem?_map]
  by_cases hi : i < n * m
  · rw [List.getElem?_range hi]
    simp only [Option.map_some]
    have h : i / m * m + i % m = i := by rw [Nat.mul_comm]; exact Nat.div_add_mod i m
    rw [h, List.getD_eq_getElem?_getD, List.getElem?_eq_getElem (by omega)]
    rfl
  · rw [List.getElem?_eq_none (by simp; omega), List.getElem?_eq_none (by omega)]
    rfl
theorem pix_in {n m r c : Nat} (hr : r < n) (hc : c < m) : r * m + c < n * m := by
  have h1 : (r + 1) * m ≤ n * m := Nat.mul_le_mul_right m hr
  rw [Nat.add_mul, Nat.one_mul] at h1
  omega

set_option maxHeartbeats 1000000 in
theorem copy_any (a : Option Addr) (xs : List Int) (cp n m : Nat) (w : World) (hx : IntsAt w a xs) (hl : xs.length = n * m) (hN2 : n * m ≤ 40000) (hn : n ≤ 400) (hm : m ≤ 400) :
    Calls Try.prog 52 #[.agg #[.int .i64 (n : Int), .int .i64 (m : Int), .slice a xs.length cp]] w (RetRas w n m xs) := by
  have HX := Lib.hid hx
  have HL := Lib.hid hl
  have HE := Lib.hid pixel_enter
  have hlen : xs.length ≤ 40000 := by omega
  clear hx hl
  obtain ⟨N, hN⟩ : ∃ N, n * m = N := ⟨_, rfl⟩
  have HNN := Lib.hid hN
  rw [hN] at hN2
  clear hN
  have hmf := run_makeFunc'' Try.prog
  go_enter Try.func52, Try.ntmps52
  go_wp2_with fail
  refine (raster_any 71 #[.agg #[.int .i64 (n : Int), .int .i64 (m : Int), .slice a xs.length cp]] #[] n m N (fun r c => xs.getD (r * m + c) 0) _ HNN.out.symm hN2 hn hm HE.out ?_).mono ?_
  · intro W hb r c hr hc
    have hi := pix_in hr hc
    exact pixel_val rfl (by rw [List.getD_eq_getElem?_getD, List.getElem?_eq_getElem (by rw [HL.out]; exact hi)]; rfl) ((HX.out.below (ba2 w _ _)).below hb) (by omega) (by omega) (by omega)
  have hid := pix_id (n := n) (m := m) HL.out
  rw [HNN.out] at hid
  rw [hid]
  rintro e w1 ⟨a1, c1, rfl, ho, hb1⟩
  obtain ⟨hA, hB, hF⟩ := box2s hb1
  have HB1 := Lib.hid (bt2 hb1)
  have HO := Lib.hid (ho.weak (base' := w.heap.size + 1 + 1) (by simp))
  have hs1 : w.heap.size + 1 < w1.heap.size := by have := hb1.size; simp at this; omega
  clear hb1 ho hid hmf hA
  go_wp2_with fail
  refine bodyPost_ret (v := .agg #[.int .i64 (n : Int), .int .i64 (m : Int), .slice a1 xs.length c1]) (by simp [results, Try.results52, go_sem, hB]) rfl ⟨a1, c1, rfl, ?_, ?_⟩
  · refine OwnI.weak (base := w.heap.size + 1 + 1) ?_ (by omega)
    iterate 3 (refine OwnI.setOld ?_ (by dsimp only; omega) _)
    exact HO.out
  · iterate 3 (refine Below.setCell ?_ (by dsimp only; omega) _)
    exact HB1.out

end Go.Proofs.Ythnjfdhijpfekaa
namespace Go.Proofs.Ythnjfdhijpfekaa
open Go.RowKit

theorem all_step {α : Type} {f : α → Bool} {zs : List α} {k : Nat} {z : α} (hz : zs[k]? = some z) (h : (zs.take k).all f = true) (hc : f z = true) : (zs.take (k + 1)).all f = true := by
  rw [take_snoc' hz, List.all_append, h]; simp [hc]
theorem all_end {α : Type} {f : α → Bool} {zs : List α} {k : Nat} (hk : zs.length ≤ k) (h : (zs.take k).all f = true) : zs.all f = true := by
  rwa [List.take_of_length_le hk] at h
theorem all_no {α : Type} {f : α → Bool} {zs : List α} {k : Nat} {z : α} (hz : zs[k]? = some z) (hc : f z = false) : zs.all f = false := by
  rw [List.all_eq_false]
  exact ⟨z, List.mem_of_getElem? hz, by simp [hc]⟩

end Go.Proofs.Ythnjfdhijpfekaa
namespace Go.Proofs.Ythnjfdhijpfekaa
open Go.RowKit

/-- are the fields of a damage as described for its kind -/
def fineB (k r c t w : Int) : Bool :=
  if k = 1 then inB r 0 400 && inB c 0 400 && inB t 0 400 && (w == 0)
  else if k = 2 then inB r 0 400 && inB c 0 400 && inB t 1 400 && inB w 1 400
  else if k = 3 then (r == 0) && (c == 0) && inB t 1 400 && inB w (-400) 400
  else if k = 4 then inB r 0 400 && inB t 0 400 && (c == 0) && (w == 0)
  else if k = 5 then (r == 0) && (c == 0) && (w == 0) && inB t 0 256
  else false
/-- a valid damage -/
def dmOk (k r c t w g : Int) : Bool := fineB k r c t w && inB g 0 255
theorem fine1 {r c t w : Int} : fineB 1 r c t w = (inB r 0 400 && inB c 0 400 && inB t 0 400 && (w == 0)) := by simp [fineB]
theorem fine2 {r c t w : Int} : fineB 2 r c t w = (inB r 0 400 && inB c 0 400 && inB t 1 400 && inB w 1 400) := by simp [fineB]
theorem fine3 {r c t w : Int} : fineB 3 r c t w = ((r == 0) && (c == 0) && inB t 1 400 && inB w (-400) 400) := by simp [fineB]
theorem fine4 {r c t w : Int} : fineB 4 r c t w = (inB r 0 400 && inB t 0 400 && (c == 0) && (w == 0)) := by simp [fineB]
theorem fine5 {r c t w : Int} : fineB 5 r c t w = ((r == 0) && (c == 0) && (w == 0) && inB t 0 256) := by simp [fineB]
theorem fine0 {k r c t w : Int} (h : k < 1 ∨ 5 < k) : fineB k r c t w = false := by
  unfold fineB
  rw [if_neg (by omega), if_neg (by omega), if_neg (by omega), if_neg (by omega), if_neg (by omega)]
theorem dm_bounds {k r c t w g : Int} (h : dmOk k r c t w g = true) : (1 ≤ k ∧ k ≤ 5) ∧ (0 ≤ r ∧ r ≤ 400) ∧ (0 ≤ c ∧ c ≤ 400) ∧ (0 ≤ t ∧ t ≤ 400) ∧ (-400 ≤ w ∧ w ≤ 400) ∧ (0 ≤ g ∧ g ≤ 255) ∧ (k = 3 → 1 ≤ t) ∧ (k = 5 → t ≤ 256) := by
  unfold dmOk at h
  rw [Bool.and_eq_true, inB_iff] at h
  obtain ⟨h1, h2⟩ := h
  by_cases hk : k < 1 ∨ 5 < k
  · rw [fine0 hk] at h1; cases h1
  · have : k = 1 ∨ k = 2 ∨ k = 3 ∨ k = 4 ∨ k = 5 := by omega
    rcases this with rfl | rfl | rfl | rfl | rfl
    · simp only [fine1, Bool.and_eq_true, inB_iff, beq_iff_eq] at h1; omega
    · simp only [fine2, Bool.and_eq_true, inB_iff] at h1; omega
    · simp only [fine3, Bool.and_eq_true, inB_iff, beq_iff_eq] at h1; omega
    · simp only [fine4, Bool.and_eq_true, inB_iff, beq_iff_eq] at h1; omega
    · simp only [fine5, Bool.and_eq_true, inB_iff, beq_iff_eq] at h1; omega

/-- does a blot or a scratch touch a pixel -/
def touchB (k r c t w y x : Int) : Bool := if k = 1 then decide ((y - r) * (y - r) + (x - c) * (x - c) ≤ t * t) else inB y r (r + t - 1) && inB x c (c + w - 1)
theorem touch1 {r c t w y x : Int} : touchB 1 r c t w y x = decide ((y - r) * (y - r) + (x - c) * (x - c) ≤ t * t) := by simp [touchB]
theorem touch2 {r c t w y x : Int} : touchB 2 r c t w y x = (inB y r (r + t - 1) && inB x c (c + w - 1)) := by simp [touchB]

/-- a pixel behind a damage that is no noise -/
def dpix (k r c t w g : Int) (m : Nat) (xs : List Int) (y x : Nat) : Int :=
  if k = 3 then (if inB ((x : Int) - (y : Int) * w / t) 0 ((m : Int) - 1) = true then xs.getD (y * m + ((x : Int) - (y : Int) * w / t).toNat) 0 else g)
  else if k = 5 then (xs.getD (y * m + x) 0 * t + g * (256 - t)) / 256
  else if touchB k r c t w y x = true then g else xs.getD (y * m + x) 0
/-- rounds of noise -/
def nz (g : Int) (N : Nat) (p : Int × List Int) : Nat → Int × List Int
  | 0 => p
  | t + 1 => ((75 * (nz g N p t).1 + 74) % 65537, (nz g N p t).2.set (((75 * (nz g N p t).1 + 74) % 65537) % (N : Int)).toNat g)
/-- the pixels behind a damage -/
def dmgL (k r c t w g : Int) (n m : Nat) (xs : List Int) : List Int :=
  if k = 4 then (nz g (n * m) (r, xs) t.toNat).2 else pix (dpix k r c t w g m xs) m (n * m)

theorem nz_len {g : Int} {N : Nat} {p : Int × List Int} : ∀ t, (nz g N p t).2.length = p.2.length
  | 0 => rfl
  | t + 1 => by simp [nz, nz_len t]
theorem nz_x {g : Int} {N : Nat} {p : Int × List Int} (h : 0 ≤ p.1 ∧ p.1 ≤ 65536) : ∀ t, 0 ≤ (nz g N p t).1 ∧ (nz g N p t).1 ≤ 65536
  | 0 => h
  | t + 1 => by have := nz_x (g := g) (N := N) h t; simp only [nz]; omega
def Greys (xs : List Int) : Prop := ∀ x ∈ xs, 0 ≤ x ∧ x ≤ 255
theorem greys_set {xs : List Int} {i : Nat} {g : Int} (h : Greys xs) (hg : 0 ≤ g ∧ g ≤ 255) : Greys (xs.set i g) := fun x hx => by
  rcases List.mem_or_eq_of_mem_set hx with h1 | h1
  · exact h x h1
  · subst h1; exact hg
theorem nz_greys {g : Int} {N : Nat} {p : Int × List Int} (h : Greys p.2) (hg : 0 ≤ g ∧ g ≤ 255) : ∀ t, Greys (nz g N p t).2
  | 0 => h
  | t + 1 => greys_set (nz_greys h hg t) hg
theorem getD_grey {xs : List Int} (h : Greys xs) (i : Nat) : 0 ≤ xs.getD i 0 ∧ xs.getD i 0 ≤ 255 := by
  rw [List.getD_eq_getElem?_getD]
  by_cases hi : i < xs.length
  · rw [List.getElem?_eq_getElem hi]; exact h _ (List.getElem_mem hi)
  · rw [List.getElem?_eq_none (by omega)]; simp
theorem fade_mid {v t g : Int} (hv : 0 ≤ v ∧ v ≤ 255) (ht : 0 ≤ t ∧ t ≤ 256) (hg : 0 ≤ g ∧ g ≤ 255) : 0 ≤ v * t ∧ v * t ≤ 255 * t ∧ 0 ≤ g * (256 - t) ∧ g * (256 - t) ≤ 255 * (256 - t) :=
  ⟨Int.mul_nonneg hv.1 ht.1, Int.mul_le_mul_of_nonneg_right hv.2 ht.1, Int.mul_nonneg hg.1 (by omega), Int.mul_le_mul_of_nonneg_right hg.2 (by omega)⟩
theorem fade_grey {v t g : Int} (hv : 0 ≤ v ∧ v ≤ 255) (ht : 0 ≤ t ∧ t ≤ 256) (hg : 0 ≤ g ∧ g ≤ 255) : 0 ≤ (v * t + g * (256 - t)) / 256 ∧ (v * t + g * (256 - t)) / 256 ≤ 255 := by
  obtain ⟨h1, h2, h3, h4⟩ := fade_mid hv ht hg
  generalize v * t = a at *
  generalize g * (256 - t) = b at *
  omega
theorem dpix_grey {k r c t w g : Int} {m : Nat} {xs : List Int} (hd : dmOk k r c t w g = true) (h : Greys xs) (y x : Nat) : 0 ≤ dpix k r c t w g m xs y x ∧ dpix k r c t w g m xs y x ≤ 255 := by
  obtain ⟨_, _, _, h4, _, h6, _, h8⟩ := dm_bounds hd
  unfold dpix
  by_cases h3 : k = 3
  · rw [if_pos h3]
    split
    · exact getD_grey h _
    · exact h6
  · rw [if_neg h3]
    by_cases h5 : k = 5
    · rw [if_pos h5]
      exact fade_grey (getD_grey h _) ⟨h4.1, h8 h5⟩ h6
    · rw [if_neg h5]
      split
      · exact h6
      · exact getD_grey h _
theorem dmgL_greys {k r c t w g : Int} {n m : Nat} {xs : List Int} (hd : dmOk k r c t w g = true) (h : Greys xs) : Greys (dmgL k r c t w g n m xs) := by
  obtain ⟨_, _, _, _, _, h6, _⟩ := dm_bounds hd
  unfold dmgL
  split
  · exact nz_greys h h6 _
  · intro x hx
    obtain ⟨i, _, rfl⟩ := List.mem_map.1 hx
    exact dpix_grey hd h _ _
theorem dmgL_len {k r c t w g : Int} {n m : Nat} {xs : List Int} (h : xs.length = n * m) : (dmgL k r c t w g n m xs).length = n * m := by
  unfold dmgL
  split
  · rw [nz_len]; exact h
  · exact pix_len _ _ _
theorem dmgL_pix {k r c t w g : Int} {n m : Nat} {xs : List Int} (h : k ≠ 4) : dmgL k r c t w g n m xs = pix (dpix k r c t w g m xs) m (n * m) := by rw [dmgL, if_neg h]
theorem dmgL_noise {r c t w g : Int} {n m : Nat} {xs : List Int} : dmgL 4 r c t w g n m xs = (nz g (n * m) (r, xs) t.toNat).2 := by rw [dmgL, if_pos rfl]

/-- a damage in six numbers -/
structure Dm where
  k : Int
  r : Int
  c : Int
  t : Int
  w : Int
  g : Int
def Dm.ok (d : Dm) : Bool := dmOk d.k d.r d.c d.t d.w d.g
def Dm.on (d : Dm) (n m : Nat) (xs : List Int) : List Int := dmgL d.k d.r d.c d.t d.w d.g n m xs
/-- the pixels behind damages, one after the other -/
def dmsL (n m : Nat) (ds : List Dm) (xs : List Int) : List Int := ds.foldl (fun ys d => d.on n m ys) xs
theorem dmsL_snoc {n m : Nat} {ds : List Dm} {d : Dm} {xs : List Int} : dmsL n m (ds ++ [d]) xs = d.on n m (dmsL n m ds xs) := by simp [dmsL, List.foldl_append]
theorem dmsL_len {n m : Nat} {xs : List Int} (h : xs.length = n * m) : ∀ ds : List Dm, (dmsL n m ds xs).length = n * m
  | [] => h
  | d :: ds => dmsL_len (xs := d.on n m xs) (dmgL_len h) ds
theorem dmsL_greys {n m : Nat} {xs : List Int} (h : Greys xs) : ∀ ds : List Dm, (∀ d ∈ ds, d.ok = true) → Greys (dmsL n m ds xs)
  | [], _ => h
  | d :: ds, hd => dmsL_greys (xs := d.on n m xs) (dmgL_greys (hd d (by simp)) h) ds (fun e he => hd e (by simp [he]))

/-- a raster may have n rows and m columns -/
def sizeB (n m : Int) : Bool := inB n 1 400 && inB m 1 400 && decide (n * m ≤ 40000)
/-- a grey value -/
def greyB (x : Int) : Bool := inB x 0 255
/-- a raster of n rows and m columns -/
def rasOk (n m : Int) (xs : List Int) : Bool := sizeB n m && !((xs.length : Int) != n * m) && xs.all greyB
theorem size_bd {n m : Int} (h1 : inB n 1 400 = true) (h2 : inB m 1 400 = true) : 1 ≤ n * m ∧ n * m ≤ 160000 := by
  rw [inB_iff] at h1 h2
  have a : 1 * 1 ≤ n * m := Int.mul_le_mul h1.1 h2.1 (by omega) (by omega)
  have b : n * m ≤ 400 * 400 := Int.mul_le_mul h1.2 h2.2 (by omega) (by omega)
  omega
theorem greys_of {xs : List Int} (h : xs.all greyB = true) : Greys xs := fun x hx => inB_iff.1 (List.all_eq_true.1 h x hx)
theorem size_nat {n m : Int} (h : sizeB n m = true) : ∃ a b : Nat, n = a ∧ m = b ∧ 1 ≤ a ∧ a ≤ 400 ∧ 1 ≤ b ∧ b ≤ 400 ∧ a * b ≤ 40000 ∧ n * m = ((a * b : Nat) : Int) := by
  simp only [sizeB, Bool.and_eq_true, inB_iff, decide_eq_true_eq] at h
  obtain ⟨⟨h1, h2⟩, h3⟩ := h
  obtain ⟨a, rfl⟩ := Int.eq_ofNat_of_zero_le (show 0 ≤ n by omega)
  obtain ⟨b, rfl⟩ := Int.eq_ofNat_of_zero_le (show 0 ≤ m by omega)
  have e : (a : Int) * (b : Int) = ((a * b : Nat) : Int) := (Int.natCast_mul a b).symm
  rw [e] at h3
  exact ⟨a, b, rfl, rfl, by omega, by omega, by omega, by omega, by omega, e⟩
theorem ras_nat {n m : Int} {xs : List Int} (h : rasOk n m xs = true) : ∃ a b : Nat, n = a ∧ m = b ∧ 1 ≤ a ∧ a ≤ 400 ∧ 1 ≤ b ∧ b ≤ 400 ∧ a * b ≤ 40000 ∧ xs.length = a * b ∧ Greys xs := by
  simp only [rasOk, Bool.and_eq_true] at h
  obtain ⟨⟨h1, h2⟩, h3⟩ := h
  obtain ⟨a, b, rfl, rfl, q1, q2, q3, q4, q5, e⟩ := size_nat h1
  rw [e] at h2
  simp only [bne, Bool.not_not, beq_iff_eq] at h2
  exact ⟨a, b, rfl, rfl, q1, q2, q3, q4, q5, by omega, greys_of h3⟩
theorem size_of {a b : Nat} (h1 : 1 ≤ a) (h2 : a ≤ 400) (h3 : 1 ≤ b) (h4 : b ≤ 400) (h5 : a * b ≤ 40000) : sizeB a b = true := by
  simp only [sizeB, Bool.and_eq_true, inB_iff, decide_eq_true_eq]
  have e : (a : Int) * (b : Int) = ((a * b : Nat) : Int) := (Int.natCast_mul a b).symm
  rw [e]
  exact ⟨⟨by omega, by omega⟩, by omega⟩
theorem ras_of {a b : Nat} {xs : List Int} (h1 : 1 ≤ a) (h2 : a ≤ 400) (h3 : 1 ≤ b) (h4 : b ≤ 400) (h5 : a * b ≤ 40000) (h6 : xs.length = a * b) (h7 : Greys xs) : rasOk a b xs = true := by
  have e : (a : Int) * (b : Int) = ((a * b : Nat) : Int) := (Int.natCast_mul a b).symm
  simp only [rasOk, size_of h1 h2 h3 h4 h5, e, h6, Bool.true_and, bne, Bool.not_not, beq_self_eq_true]
  exact List.all_eq_true.2 (fun x hx => inB_iff.2 (h7 x hx))
theorem five_or (k : Int) : k = 1 ∨ k = 2 ∨ k = 3 ∨ k = 4 ∨ k = 5 ∨ (k < 1 ∨ 5 < k) := by omega
theorem three (a b c : Bool) : a = false ∨ (a = true ∧ b = false) ∨ (a = true ∧ b = true ∧ c = false) ∨ (a = true ∧ b = true ∧ c = true) := by
  cases a <;> cases b <;> cases c <;> simp
theorem four (a b c d : Bool) : a = false ∨ (a = true ∧ b = false) ∨ (a = true ∧ b = true ∧ c = false) ∨ (a = true ∧ b = true ∧ c = true ∧ d = false) ∨ (a = true ∧ b = true ∧ c = true ∧ d = true) := by
  cases a <;> cases b <;> cases c <;> cases d <;> simp

end Go.Proofs.Ythnjfdhijpfekaa
namespace Go.Proofs.Ythnjfdhijpfekaa
open Go.RowKit

set_option maxHeartbeats 400000 in
theorem l20Grey_val {n : Int} {b : Bool} {w : World} (h : inB n 0 255 = b) : Calls Try.prog 73 #[.int .i64 n] w fun e w' => e = .returned (.bool b) ∧ w = w' := by
  go_enter Try.func73, Try.ntmps73
  go_wp2_with fail
  refine (l01In_val h).mono ?_
  rintro e w' ⟨rfl, rfl⟩
  go_wp2_with fail
  go_ret
  exact ⟨rfl, rfl⟩

set_option maxHeartbeats 400000 in
theorem isRasterSize_any (n m : Int) (w : World) : Calls Try.prog 80 #[.int .i64 n, .int .i64 m] w fun e w' => e = .returned (.bool (sizeB n m)) ∧ w = w' := by
  rcases three (inB n 1 400) (inB m 1 400) (decide (n * m ≤ 40000)) with h1 | ⟨h1, h2⟩ | ⟨h1, h2, h3⟩ | ⟨h1, h2, h3⟩
  · have e : sizeB n m = false := by rw [sizeB, h1]; rfl
    rw [e]
    clear e
    go_enter Try.func80, Try.ntmps80
    go_wp2_with (go_at_call 48; refine (inRange_val h1).mono ?_; rintro e w' ⟨rfl, rfl⟩)
    go_ret
    exact ⟨rfl, rfl⟩
  · have e : sizeB n m = false := by rw [sizeB, h1, h2]; rfl
    rw [e]
    clear e
    go_enter Try.func80, Try.ntmps80
    go_wp2_with fail
    refine (inRange_val h1).mono ?_
    rintro e w' ⟨rfl, rfl⟩
    go_wp2_with fail
    refine (inRange_val h2).mono ?_
    rintro e w' ⟨rfl, rfl⟩
    go_wp2_with fail
    go_ret
    exact ⟨rfl, rfl⟩
  all_goals
    obtain ⟨b1, b2⟩ := size_bd h1 h2
    first | (have e : sizeB n m = false := by (rw [sizeB, h1, h2, h3]; rfl)
             rw [e]; clear e) | (have e : sizeB n m = true := by (rw [sizeB, h1, h2, h3]; rfl)
                                 rw [e]; clear e)
    go_enter Try.func80, Try.ntmps80
    go_wp2_with fail
    refine (inRange_val h1).mono ?_
    rintro e w' ⟨rfl, rfl⟩
    go_wp2_with fail
    refine (inRange_val h2).mono ?_
    rintro e w' ⟨rfl, rfl⟩
    go_wp2_with fail
    go_ret
    exact ⟨rfl, rfl⟩
theorem isRasterSize_val {n m : Int} {b : Bool} {w : World} (h : sizeB n m = b) : Calls Try.prog 80 #[.int .i64 n, .int .i64 m] w fun e w' => e = .returned (.bool b) ∧ w = w' := h ▸ isRasterSize_any n m w

set_option maxHeartbeats 400000 in
theorem l20Size_any (n m : Int) (w : World) : Calls Try.prog 72 #[.int .i64 n, .int .i64 m] w fun e w' => e = .returned (.bool (sizeB n m)) ∧ w = w' := by
  rcases three (inB n 1 400) (inB m 1 400) (decide (n * m ≤ 40000)) with h1 | ⟨h1, h2⟩ | ⟨h1, h2, h3⟩ | ⟨h1, h2, h3⟩
  · have e : sizeB n m = false := by rw [sizeB, h1]; rfl
    rw [e]
    clear e
    go_enter Try.func72, Try.ntmps72
    go_wp2_with (go_at_call 74; refine (l01In_val h1).mono ?_; rintro e w' ⟨rfl, rfl⟩)
    go_ret
    exact ⟨rfl, rfl⟩
  · have e : sizeB n m = false := by rw [sizeB, h1, h2]; rfl
    rw [e]
    clear e
    go_enter Try.func72, Try.ntmps72
    go_wp2_with fail
    refine (l01In_val h1).mono ?_
    rintro e w' ⟨rfl, rfl⟩
    go_wp2_with fail
    refine (l01In_val h2).mono ?_
    rintro e w' ⟨rfl, rfl⟩
    go_wp2_with fail
    go_ret
    exact ⟨rfl, rfl⟩
  all_goals
    obtain ⟨b1, b2⟩ := size_bd h1 h2
    first | (have e : sizeB n m = false := by (rw [sizeB, h1, h2, h3]; rfl)
             rw [e]; clear e) | (have e : sizeB n m = true := by (rw [sizeB, h1, h2, h3]; rfl)
                                 rw [e]; clear e)
    go_enter Try.func72, Try.ntmps72
    go_wp2_with fail
    refine (l01In_val h1).mono ?_
    rintro e w' ⟨rfl, rfl⟩
    go_wp2_with fail
    refine (l01In_val h2).mono ?_
    rintro e w' ⟨rfl, rfl⟩
    go_wp2_with fail
    go_ret
    exact ⟨rfl, rfl⟩
theorem l20Size_val {n m : Int} {b : Bool} {w : World} (h : sizeB n m = b) : Calls Try.prog 72 #[.int .i64 n, .int .i64 m] w fun e w' => e = .returned (.bool b) ∧ w = w' := h ▸ l20Size_any n m w

set_option maxHeartbeats 1000000 in
theorem isRaster_any (n m : Int) (a : Option Addr) (xs : List Int) (c : Nat) (w : World) (hx : IntsAt w a xs) (lx : xs.length ≤ maxLen) :
    Calls Try.prog 50 #[.agg #[.int .i64 n, .int .i64 m, .slice a xs.length c]] w fun e w' => e = .returned (.bool (rasOk n m xs)) ∧ Below w.heap.size w w' := by
  have HX := Lib.hid hx
  clear hx
  unfold maxLen at lx
  rcases Bool.eq_false_or_eq_true (sizeB n m) with h1 | h1
  · obtain ⟨b1, b2⟩ := size_bd (n := n) (m := m) (by simp only [sizeB, Bool.and_eq_true] at h1; exact h1.1.1) (by simp only [sizeB, Bool.and_eq_true] at h1; exact h1.1.2)
    have H1 := Lib.hid h1
    clear h1
    rcases Bool.eq_false_or_eq_true ((xs.length : Int) != n * m) with h2 | h2
    · have e : rasOk n m xs = false := by rw [rasOk, H1.out, h2]; rfl
      rw [e]
      clear e
      go_enter Try.func50, Try.ntmps50
      go_wp2_with fail
      refine (isRasterSize_val H1.out).mono ?_
      rintro e w1 ⟨rfl, rfl⟩
      go_wp2_with fail
      go_ret
      exact ⟨rfl, ba1 _ _⟩
    · have H2 := Lib.hid h2
      go_enter Try.func50, Try.ntmps50
      go_wp2_with fail
      refine (isRasterSize_val H1.out).mono ?_
      rintro e w1 ⟨rfl, rfl⟩
      go_wp2_with fail
      clear h2
      have HX1 := Lib.hid (HX.out.below (ba1 w (.cells #[.int .i64 n, .int .i64 m, .slice a xs.length c] 28 (0, 0))))
      go_loop [4, 25] (fun _ i => ∃ k : Nat, k ≤ xs.length ∧ i = .int .i64 k ∧ (xs.take k).all greyB = true) (fun _ i => xs.length - (intOf i).toNat)
      case atStart => exact ⟨0, Nat.zero_le _, rfl, rfl⟩
      case round =>
        obtain ⟨k, hk, rfl, hall⟩ := hrel
        have HA := Lib.hid hall
        clear hall
        by_cases hlt : k < xs.length
        · obtain ⟨b1, o1, x, rfl, hxk, hb1, hc1⟩ := HX1.out.at hlt
          have HK := Lib.hid hxk
          clear hxk
          rcases Bool.eq_false_or_eq_true (inB x 0 255) with h3 | h3
          · go_wp2_with (go_at_call 48; refine (inRange_val h3).mono ?_; rintro e w' ⟨rfl, rfl⟩)
            go_round
            case rel => exact ⟨k + 1, by omega, by go_num, all_step HK.out HA.out h3⟩
            case measure => simp [intOf]; omega
          · go_wp2_with (go_at_call 48; refine (inRange_val h3).mono ?_; rintro e w' ⟨rfl, rfl⟩)
            go_ret
            exact ⟨ret_bool (by rw [rasOk, H1.out, H2.out, all_no HK.out h3]; rfl), ba1 _ _⟩
        · go_wp2_with fail
          go_ret
          exact ⟨ret_bool (by rw [rasOk, H1.out, H2.out, all_end (by omega) HA.out]; rfl), ba1 _ _⟩
  · have H1 := Lib.hid h1
    clear h1
    have e : rasOk n m xs = false := by rw [rasOk, H1.out]; rfl
    rw [e]
    clear e
    go_enter Try.func50, Try.ntmps50
    go_wp2_with fail
    refine (isRasterSize_val H1.out).mono ?_
    rintro e w1 ⟨rfl, rfl⟩
    go_wp2_with fail
    go_ret
    exact ⟨rfl, ba1 _ _⟩
theorem isRaster_val {n m : Int} {a : Option Addr} {xs : List Int} {c : Nat} {w : World} {b : Bool} (h : rasOk n m xs = b) (hx : IntsAt w a xs) (lx : xs.length ≤ maxLen) :
    Calls Try.prog 50 #[.agg #[.int .i64 n, .int .i64 m, .slice a xs.length c]] w fun e w' => e = .returned (.bool b) ∧ Below w.heap.size w w' := h ▸ isRaster_any n m a xs c w hx lx

set_option maxHeartbeats 1000000 in
theorem specIsRaster_any (n m : Int) (a : Option Addr) (xs : List Int) (c : Nat) (w : World) (hx : IntsAt w a xs) (lx : xs.length ≤ maxLen) :
    Calls Try.prog 36 #[.agg #[.int .i64 n, .int .i64 m, .slice a xs.length c]] w fun e w' => e = .returned (.bool (rasOk n m xs)) ∧ Below w.heap.size w w' := by
  have HX := Lib.hid hx
  clear hx
  unfold maxLen at lx
  rcases Bool.eq_false_or_eq_true (sizeB n m) with h1 | h1
  · obtain ⟨b1, b2⟩ := size_bd (n := n) (m := m) (by simp only [sizeB, Bool.and_eq_true] at h1; exact h1.1.1) (by simp only [sizeB, Bool.and_eq_true] at h1; exact h1.1.2)
    have H1 := Lib.hid h1
    clear h1
    rcases Bool.eq_false_or_eq_true ((xs.length : Int) != n * m) with h2 | h2
    · have e : rasOk n m xs = false := by rw [rasOk, H1.out, h2]; rfl
      rw [e]
      clear e
      go_enter Try.func36, Try.ntmps36
      go_wp2_with fail
      refine (l20Size_val H1.out).mono ?_
      rintro e w1 ⟨rfl, rfl⟩
      go_wp2_with fail
      go_ret
      exact ⟨rfl, ba1 _ _⟩
    · have H2 := Lib.hid h2
      go_enter Try.func36, Try.ntmps36
      go_wp2_with fail
      refine (l20Size_val H1.out).mono ?_
      rintro e w1 ⟨rfl, rfl⟩
      go_wp2_with fail
      clear h2
      have HX1 := Lib.hid (HX.out.below (ba1 w (.cells #[.int .i64 n, .int .i64 m, .slice a xs.length c] 28 (0, 0))))
      go_loop [3] (fun i => ∃ k : Nat, k ≤ xs.length ∧ i = .int .i64 k ∧ (xs.take k).all greyB = true) (fun i => xs.length - (intOf i).toNat)
      case atStart => exact ⟨0, Nat.zero_le _, rfl, rfl⟩
      case round =>
        obtain ⟨k, hk, rfl, hall⟩ := hrel
        have HA := Lib.hid hall
        clear hall
        by_cases hlt : k < xs.length
        · obtain ⟨b1, o1, x, rfl, hxk, hb1, hc1⟩ := HX1.out.at hlt
          have HK := Lib.hid hxk
          clear hxk
          rcases Bool.eq_false_or_eq_true (inB x 0 255) with h3 | h3
          · go_wp2_with (go_at_call 73; refine (l20Grey_val h3).mono ?_; rintro e w' ⟨rfl, rfl⟩)
            go_round
            case rel => exact ⟨k + 1, by omega, by go_num, all_step HK.out HA.out h3⟩
            case measure => simp [intOf]; omega
          · go_wp2_with (go_at_call 73; refine (l20Grey_val h3).mono ?_; rintro e w' ⟨rfl, rfl⟩)
            go_ret
            exact ⟨ret_bool (by rw [rasOk, H1.out, H2.out, all_no HK.out h3]; rfl), ba1 _ _⟩
        · go_wp2_with fail
          go_ret
          exact ⟨ret_bool (by rw [rasOk, H1.out, H2.out, all_end (by omega) HA.out]; rfl), ba1 _ _⟩
  · have H1 := Lib.hid h1
    clear h1
    have e : rasOk n m xs = false := by rw [rasOk, H1.out]; rfl
    rw [e]
    clear e
    go_enter Try.func36, Try.ntmps36
    go_wp2_with fail
    refine (l20Size_val H1.out).mono ?_
    rintro e w1 ⟨rfl, rfl⟩
    go_wp2_with fail
    go_ret
    exact ⟨rfl, ba1 _ _⟩
theorem specIsRaster_val {n m : Int} {a : Option Addr} {xs : List Int} {c : Nat} {w : World} {b : Bool} (h : rasOk n m xs = b) (hx : IntsAt w a xs) (lx : xs.length ≤ maxLen) :
    Calls Try.prog 36 #[.agg #[.int .i64 n, .int .i64 m, .slice a xs.length c]] w fun e w' => e = .returned (.bool b) ∧ Below w.heap.size w w' := h ▸ specIsRaster_any n m a xs c w hx lx

end Go.Proofs.Ythnjfdhijpfekaa
namespace Go.Proofs.Ythnjfdhijpfekaa
open Go.RowKit

theorem bdN {B : Nat} {w w' : World} (h : Below B w w') (k : Nat) : Below B w (w'.drewN k) := ⟨h.os, h.tape, h.output, h.size, h.block⟩
theorem tdiv_down {a b : Int} (hb : 1 ≤ b) (h : a.tmod b < 0) : a.tdiv b - 1 = a / b := by
  have h1 := Int.mul_tdiv_add_tmod a b
  have h2 := Int.mul_ediv_add_emod a b
  have h3 := Int.emod_nonneg a (b := b) (by omega)
  have h4 := Int.emod_lt_of_pos a (b := b) (by omega)
  have h5 := Int.lt_tmod_of_pos a (b := b) (by omega)
  generalize a.tdiv b = q at *
  generalize a / b = d at *
  generalize a.tmod b = m at *
  generalize a % b = s at *
  have h6 : b * (d - (q - 1)) < b * 1 := by rw [Int.mul_sub, Int.mul_sub]; omega
  have h7 : b * (-1) < b * (d - (q - 1)) := by rw [Int.mul_sub, Int.mul_sub]; omega
  have h8 := Int.lt_of_mul_lt_mul_left h6 (by omega)
  have h9 := Int.lt_of_mul_lt_mul_left h7 (by omega)
  omega
theorem tdiv_same {a b : Int} (hb : 1 ≤ b) (h : 0 ≤ a.tmod b) : a.tdiv b = a / b := by
  have h1 := Int.mul_tdiv_add_tmod a b
  have h2 := Int.mul_ediv_add_emod a b
  have h3 := Int.emod_nonneg a (b := b) (by omega)
  have h4 := Int.emod_lt_of_pos a (b := b) (by omega)
  have h5 := Int.tmod_lt_of_pos a (b := b) (by omega)
  generalize a.tdiv b = q at *
  generalize a / b = d at *
  generalize a.tmod b = m at *
  generalize a % b = s at *
  have h6 : b * (d - q) < b * 1 := by rw [Int.mul_sub]; omega
  have h7 : b * (-1) < b * (d - q) := by rw [Int.mul_sub]; omega
  have h8 := Int.lt_of_mul_lt_mul_left h6 (by omega)
  have h9 := Int.lt_of_mul_lt_mul_left h7 (by omega)
  omega
theorem tdiv_bd {a b : Int} (_hb : 1 ≤ b) (h1 : -1000000 ≤ a) (h2 : a ≤ 1000000) : -1000000 ≤ a.tdiv b ∧ a.tdiv b ≤ 1000000 := by
  have h := Int.natAbs_tdiv_le_natAbs a b
  omega

set_option maxHeartbeats 400000 in
theorem floorDiv_val {a b z : Int} {w : World} (hz : a / b = z) (hb : 1 ≤ b) (hb2 : b ≤ 1000) (h1 : -1000000 ≤ a) (h2 : a ≤ 1000000) : Calls Try.prog 119 #[.int .i64 a, .int .i64 b] w fun e w' => e = .returned (.int .i64 z) ∧ w = w' := by
  obtain ⟨b1, b2⟩ := tdiv_bd hb h1 h2
  have HZ := Lib.hid hz
  clear hz
  by_cases ha : 0 ≤ a
  · have hm : ¬ a % b < 0 := by have := Int.emod_nonneg a (b := b) (by omega); omega
    go_enter Try.func119, Try.ntmps119
    go_wp2_with fail
    go_ret
    exact ⟨ret_int ((tdiv_same hb (Int.tmod_nonneg _ ha)).trans HZ.out), rfl⟩
  · by_cases hm : a.tmod b < 0
    · go_enter Try.func119, Try.ntmps119
      go_wp2_with fail
      go_ret
      exact ⟨ret_int ((tdiv_down hb hm).trans HZ.out), rfl⟩
    · go_enter Try.func119, Try.ntmps119
      go_wp2_with fail
      go_ret
      exact ⟨ret_int ((tdiv_same hb (by omega)).trans HZ.out), rfl⟩
set_option maxHeartbeats 400000 in
theorem l24Floor_val {a b z : Int} {w : World} (hz : a / b = z) (hb : 1 ≤ b) (hb2 : b ≤ 1000) (h1 : -1000000 ≤ a) (h2 : a ≤ 1000000) : Calls Try.prog 84 #[.int .i64 a, .int .i64 b] w fun e w' => e = .returned (.int .i64 z) ∧ w = w' := by
  obtain ⟨b1, b2⟩ := tdiv_bd hb h1 h2
  have HZ := Lib.hid hz
  clear hz
  by_cases ha : 0 ≤ a
  · have hm : ¬ a % b < 0 := by have := Int.emod_nonneg a (b := b) (by omega); omega
    go_enter Try.func84, Try.ntmps84
    go_wp2_with fail
    go_ret
    exact ⟨ret_int ((tdiv_same hb (Int.tmod_nonneg _ ha)).trans HZ.out), rfl⟩
  · by_cases hm : a.tmod b < 0
    · go_enter Try.func84, Try.ntmps84
      go_wp2_with fail
      go_ret
      exact ⟨ret_int ((tdiv_down hb hm).trans HZ.out), rfl⟩
    · go_enter Try.func84, Try.ntmps84
      go_wp2_with fail
      go_ret
      exact ⟨ret_int ((tdiv_same hb (by omega)).trans HZ.out), rfl⟩

theorem sq_bd {x : Int} (h1 : -400 ≤ x) (h2 : x ≤ 400) : 0 ≤ x * x ∧ x * x ≤ 160000 := by
  rcases Int.le_total 0 x with h | h
  · exact ⟨Int.mul_nonneg h h, Int.mul_le_mul h2 h2 h (by omega)⟩
  · have e : x * x = (-x) * (-x) := by rw [Int.neg_mul_neg]
    rw [e]
    have h3 : (-x) * (-x) ≤ 400 * 400 := Int.mul_le_mul (by omega) (by omega) (by omega) (by omega)
    exact ⟨Int.mul_nonneg (by omega) (by omega), h3⟩

set_option maxRecDepth 100000 in
set_option maxHeartbeats 400000 in
theorem blotTouches_val {k r c t w g y x : Int} {b : Bool} {W : World} (hb : touchB 1 r c t w y x = b) (hr : 0 ≤ r ∧ r ≤ 400) (hc : 0 ≤ c ∧ c ≤ 400) (ht : 0 ≤ t ∧ t ≤ 400) (hy : 0 ≤ y ∧ y ≤ 400) (hx : 0 ≤ x ∧ x ≤ 400) :
    Calls Try.prog 78 #[.agg #[.int .i64 k, .int .i64 r, .int .i64 c, .int .i64 t, .int .i64 w, .int .i64 g], .int .i64 y, .int .i64 x] W fun e W' => e = .returned (.bool b) ∧ Below W.heap.size W W' := by
  rw [touch1] at hb
  obtain ⟨s1, s2⟩ := sq_bd (x := y - r) (by omega) (by omega)
  obtain ⟨s3, s4⟩ := sq_bd (x := x - c) (by omega) (by omega)
  obtain ⟨s5, s6⟩ := sq_bd (x := t) (by omega) (by omega)
  have HB := Lib.hid hb
  clear hb
  go_enter Try.func78, Try.ntmps78
  go_wp2_with fail
  go_quiet (fail)
  go_wp2_with fail
  go_ret
  exact ⟨ret_bool HB.out, bdN (ba1 _ _) _⟩

set_option maxRecDepth 100000 in
set_option maxHeartbeats 400000 in
theorem scratchTouches_val {k r c t w g y x : Int} {b : Bool} {W : World} (hb : touchB 2 r c t w y x = b) (hr : 0 ≤ r ∧ r ≤ 400) (hc : 0 ≤ c ∧ c ≤ 400) (ht : 0 ≤ t ∧ t ≤ 400) (hw : -400 ≤ w ∧ w ≤ 400) :
    Calls Try.prog 79 #[.agg #[.int .i64 k, .int .i64 r, .int .i64 c, .int .i64 t, .int .i64 w, .int .i64 g], .int .i64 y, .int .i64 x] W fun e W' => e = .returned (.bool b) ∧ Below W.heap.size W W' := by
  rw [touch2] at hb
  rcases Bool.eq_false_or_eq_true (inB y r (r + t - 1)) with h1 | h1
  · rw [h1, Bool.true_and] at hb
    have HB := Lib.hid hb
    have H1 := Lib.hid h1
    clear hb h1
    go_enter Try.func79, Try.ntmps79
    go_wp2_with fail
    refine (inRange_val H1.out).mono ?_
    rintro e w1 ⟨rfl, rfl⟩
    go_wp2_with fail
    refine (inRange_val HB.out).mono ?_
    rintro e w1 ⟨rfl, rfl⟩
    go_wp2_with fail
    go_ret
    exact ⟨rfl, ba1 _ _⟩
  · rw [h1, Bool.false_and] at hb
    subst hb
    have H1 := Lib.hid h1
    clear h1
    go_enter Try.func79, Try.ntmps79
    go_wp2_with fail
    refine (inRange_val H1.out).mono ?_
    rintro e w1 ⟨rfl, rfl⟩
    go_wp2_with fail
    go_ret
    exact ⟨rfl, ba1 _ _⟩

set_option maxRecDepth 100000 in
set_option maxHeartbeats 600000 in
theorem l27Touches_val {k r c t w g y x : Int} {b : Bool} {W : World} (hb : touchB k r c t w y x = b) (hr : 0 ≤ r ∧ r ≤ 400) (hc : 0 ≤ c ∧ c ≤ 400) (ht : 0 ≤ t ∧ t ≤ 400) (hw : -400 ≤ w ∧ w ≤ 400) (hy : 0 ≤ y ∧ y ≤ 400) (hx : 0 ≤ x ∧ x ≤ 400) :
    Calls Try.prog 63 #[.agg #[.int .i64 k, .int .i64 r, .int .i64 c, .int .i64 t, .int .i64 w, .int .i64 g], .int .i64 y, .int .i64 x] W fun e W' => e = .returned (.bool b) ∧ Below W.heap.size W W' := by
  by_cases hk : k = 1
  · subst hk
    rw [touch1] at hb
    obtain ⟨s1, s2⟩ := sq_bd (x := y - r) (by omega) (by omega)
    obtain ⟨s3, s4⟩ := sq_bd (x := x - c) (by omega) (by omega)
    obtain ⟨s5, s6⟩ := sq_bd (x := t) (by omega) (by omega)
    have HB := Lib.hid hb
    clear hb
    go_enter Try.func63, Try.ntmps63
    go_wp2_with fail
    go_ret
    exact ⟨ret_bool HB.out, ba1 _ _⟩
  · have hk' : (k == 1) = false := by simpa using hk
    rw [touchB, if_neg hk] at hb
    clear hk
    rcases Bool.eq_false_or_eq_true (inB y r (r + t - 1)) with h1 | h1
    · rw [h1, Bool.true_and] at hb
      have HB := Lib.hid hb
      have H1 := Lib.hid h1
      clear hb h1
      go_enter Try.func63, Try.ntmps63
      go_wp2_with fail
      refine (l01In_val H1.out).mono ?_
      rintro e w1 ⟨rfl, rfl⟩
      go_wp2_with fail
      refine (l01In_val HB.out).mono ?_
      rintro e w1 ⟨rfl, rfl⟩
      go_wp2_with fail
      go_ret
      exact ⟨rfl, ba1 _ _⟩
    · rw [h1, Bool.false_and] at hb
      subst hb
      have H1 := Lib.hid h1
      clear h1
      go_enter Try.func63, Try.ntmps63
      go_wp2_with fail
      refine (l01In_val H1.out).mono ?_
      rintro e w1 ⟨rfl, rfl⟩
      go_wp2_with fail
      go_ret
      exact ⟨rfl, ba1 _ _⟩

set_option maxHeartbeats 400000 in
theorem l20At_val {a : Option Addr} {xs : List Int} {cp m r c i : Nat} {n z : Int} {w : World} (hi : r * m + c = i) (hz : xs[i]? = some z) (hx : IntsAt w a xs) (hl : xs.length ≤ 1099511627776) :
    Calls Try.prog 85 #[.agg #[.int .i64 n, .int .i64 (m : Int), .slice a xs.length cp], .int .i64 (r : Int), .int .i64 (c : Int)] w fun e w' => e = .returned (.int .i64 z) ∧ Below w.heap.size w w' := by
  have hlt : i < xs.length := (List.getElem?_eq_some_iff.1 hz).1
  obtain ⟨b, o, z', rfl, hz', hb, hcl⟩ := hx.at hlt
  obtain rfl : z = z' := Option.some.inj (hz.symm.trans hz')
  obtain ⟨q, hq⟩ : ∃ q, r * m = q := ⟨_, rfl⟩
  have hrm : (r : Int) * (m : Int) = (q : Int) := by rw [← hq]; simp
  have hqi : (q : Int) + (c : Int) = (i : Int) := by omega
  have hil : (i : Int) < (xs.length : Int) := by omega
  have w1 : wrap64 (q : Int) = q := IntWalk.wrap64_in _ (by omega)
  have w2 : wrap64 (i : Int) = i := IntWalk.wrap64_in _ (by omega)
  have hcw : (w.alloc (.cells #[.int .i64 n, .int .i64 (m : Int), .slice (some ⟨b, o, none⟩) xs.length cp] 28 (0, 0))).cell? ⟨b, o + i, none⟩ = some (.int .i64 z) := by
    rw [(ba1 w _).cell (p := ⟨b, o + i, none⟩) hb]; exact hcl
  clear hz hz' hx hcl hq hi
  go_enter Try.func85, Try.ntmps85
  go_wp2_with fail
  go_ret
  exact ⟨rfl, ba1 _ _⟩

end Go.Proofs.Ythnjfdhijpfekaa
namespace Go.Proofs.Ythnjfdhijpfekaa
open Go.RowKit

/-! Regions that draw their order and only read or make memory: what stands in world w0 stands still. -/
def KB (W W' : World) : Prop := Below W.heap.size W W'
def StX (w0 W : World) : Prop := Below w0.heap.size w0 W
def spE (v : Value) : Sp KB := ⟨fun u _ => u = v, fun _ _ _ _ h => h⟩
/-- a slice of n cells, each as f tells -/
def RowF (n : Nat) (f : Nat → Value) (u : Value) (W : World) : Prop := ∃ b, u = .slice (some ⟨b, 0, none⟩) n n ∧ ∀ i, i < n → W.cell? ⟨b, i, none⟩ = some (f i)
theorem RowF.below {n : Nat} {f : Nat → Value} {u : Value} {W W' : World} (h : RowF n f u W) (hb : Below W.heap.size W W') : RowF n f u W' := by
  obtain ⟨b, e, hc⟩ := h
  exact ⟨b, e, fun i hi => by rw [hb.cell (p := ⟨b, i, none⟩) (lt_of_cell (hc i hi))]; exact hc i hi⟩
def spRow (n : Nat) (f : Nat → Value) : Sp KB := ⟨RowF n f, fun _ _ _ hk h => h.below hk⟩
theorem stX0 (w : World) : StX w w.drew := (Below.refl _ _).drew
theorem kbr (w : World) : KB w w := Below.refl _ _
theorem kb_same {w0 W : World} {s : Sp KB} {v : Value} (hst : StX w0 W) (h : s.holds v W) : RsR (StX w0) s W v W := ⟨hst, Below.refl _ _, h⟩
theorem kb_below {w0 W W' : World} {s : Sp KB} {v : Value} (hst : StX w0 W) (hb : Below W.heap.size W W') (h : s.holds v W') : RsR (StX w0) s W v W' := ⟨bt0 hst hb (Nat.le_refl _), hb, h⟩
/-- a slice of the call's own: blocks from base on -/
def spOwn (base : Nat) (zs : List Int) : Sp KB := ⟨fun v W => OwnI W base v zs, fun _ _ _ hk h => h.grown hk⟩

def spN (p : Value → Prop) : Sp (fun _ _ : World => True) := ⟨fun v _ => p v, fun _ _ _ _ h => h⟩
theorem n_same {St : World → Prop} {W : World} {s : Sp (fun _ _ : World => True)} {v : Value} (h : St W) (hs : s.holds v W) : RsR St s W v W := ⟨h, trivial, hs⟩

/-- a raster of the call's own -/
def RasV (base : Nat) (n m : Int) (zs : List Int) (v : Value) (W : World) : Prop := ∃ a c, v = .agg #[.int .i64 n, .int .i64 m, .slice a zs.length c] ∧ OwnI W base (.slice a zs.length c) zs
def spRas (base : Nat) (n m : Int) (zs : List Int) : Sp KB := ⟨RasV base n m zs, fun _ _ _ hk ⟨a, c, e, h⟩ => ⟨a, c, e, h.grown hk⟩⟩

end Go.Proofs.Ythnjfdhijpfekaa
namespace Go.Proofs.Ythnjfdhijpfekaa
open Go.RowKit

theorem push_at (w : World) (A : Obj) : (w.alloc A).heap[w.heap.size]? = some A := Array.getElem?_push_size
theorem push_old {w : World} {i : Nat} {A B : Obj} (h : w.heap[i]? = some B) : (w.alloc A).heap[i]? = some B := ((ba1 w A).block i (Array.getElem?_eq_some_iff.1 h).1).trans h
theorem heap2 (w : World) (A B : Obj) : ((w.alloc A).alloc B).heap[w.heap.size]? = some A ∧ ((w.alloc A).alloc B).heap[w.heap.size + 1]? = some B := by
  refine ⟨push_old (push_at w A), ?_⟩
  have h := push_at (w.alloc A) B
  rw [World.size_alloc] at h
  exact h
theorem heap3 (w : World) (A B C : Obj) : (((w.alloc A).alloc B).alloc C).heap[w.heap.size]? = some A ∧ (((w.alloc A).alloc B).alloc C).heap[w.heap.size + 1]? = some B ∧ (((w.alloc A).alloc B).alloc C).heap[w.heap.size + 1 + 1]? = some C := by
  refine ⟨push_old (heap2 w A B).1, push_old (heap2 w A B).2, ?_⟩
  have h := push_at ((w.alloc A).alloc B) C
  rw [World.size_alloc, World.size_alloc] at h
  exact h
theorem heap4 (w : World) (A B C D : Obj) : ((((w.alloc A).alloc B).alloc C).alloc D).heap[w.heap.size]? = some A ∧ ((((w.alloc A).alloc B).alloc C).alloc D).heap[w.heap.size + 1]? = some B ∧ ((((w.alloc A).alloc B).alloc C).alloc D).heap[w.heap.size + 1 + 1]? = some C ∧ ((((w.alloc A).alloc B).alloc C).alloc D).heap[w.heap.size + 1 + 1 + 1]? = some D := by
  refine ⟨push_old (heap3 w A B C).1, push_old (heap3 w A B C).2.1, push_old (heap3 w A B C).2.2, ?_⟩
  have h := push_at (((w.alloc A).alloc B).alloc C) D
  rw [World.size_alloc, World.size_alloc, World.size_alloc] at h
  exact h
theorem blk {w w' : World} {B i : Nat} {A : Obj} (hb : Below B w w') (h : w.heap[i]? = some A) (hB : i < B) : w'.heap[i]? = some A := (hb.block i hB).trans h
theorem blkK {w w' : World} {i : Nat} {A : Obj} (hb : Below w.heap.size w w') (h : w.heap[i]? = some A) : w'.heap[i]? = some A := (hb.block i (Array.getElem?_eq_some_iff.1 h).1).trans h
theorem blkLt {w : World} {i : Nat} {A : Obj} (h : w.heap[i]? = some A) : i < w.heap.size := (Array.getElem?_eq_some_iff.1 h).1

/-- the end of a function that hands back a raster out of its box -/
theorem retRas_box {w w4 w1 : World} {n m : Int} {xs : List Int} {a : Option Addr} {c B : Nat} (hw : Below w.heap.size w w4) (ho : OwnI w1 w4.heap.size (.slice a xs.length c) xs) (hb : Below w4.heap.size w4 w1) (hB : w.heap.size ≤ B) (hB4 : B < w4.heap.size) (v0 v1 v2 : Value) :
    RetRas w n m xs (.returned (.agg #[.int .i64 n, .int .i64 m, .slice a xs.length c])) (((w1.setCell ⟨B, 0, none⟩ v0).setCell ⟨B, 1, none⟩ v1).setCell ⟨B, 2, none⟩ v2) := by
  refine ⟨a, c, rfl, ?_, ?_⟩
  · refine OwnI.weak (base := w4.heap.size) ?_ hw.size
    iterate 3 (refine OwnI.setOld ?_ (by dsimp only; omega) _)
    exact ho
  · iterate 3 (refine Below.setCell ?_ (by dsimp only; omega) _)
    exact bt0 hw hb (Nat.le_refl _)

set_option maxRecDepth 100000 in
set_option maxHeartbeats 400000 in
theorem painted1_val {K2 : FuncId} {V2 : Value} {T : Bool} {a : Option Addr} {xs : List Int} {cp n m r c i b1 b2 b3 : Nat} {g z : Int} {W : World} (h1 : W.cell? ⟨b1, 0, none⟩ = some (.func (.func K2) #[V2] #[])) (h2 : W.cell? ⟨b2, 0, none⟩ = some (.int .i64 g)) (h3 : ∀ i, W.cell? ⟨b3, i, none⟩ = (#[.int .i64 (n : Int), .int .i64 (m : Int), .slice a xs.length cp] : Array Value)[i]?)
    (hE : ∀ (args : Array Value) (W : World), (callFunc K2 args).run Try.prog W = .ok (.enter K2 args) W)
    (hT : Calls Try.prog K2 #[V2, .int .i64 (r : Int), .int .i64 (c : Int)] W fun e W' => e = .returned (.bool T) ∧ Below W.heap.size W W')
    (hi : r * m + c = i) (hz : xs[i]? = some z) (hx : IntsAt W a xs) (hr : r ≤ 400) (hc : c ≤ 400) (hl : xs.length ≤ 40000) :
    Calls Try.prog 109 #[.int .i64 (r : Int), .int .i64 (c : Int), .pointer (some ⟨b1, 0, none⟩), .pointer (some ⟨b2, 0, none⟩), .pointer (some ⟨b3, 0, none⟩)] W fun e W' => e = .returned (.int .i64 (if T = true then g else z)) ∧ Below W.heap.size W W' := by
  have HT := Lib.hid hT
  have HX := Lib.hid hx
  have HI := Lib.hid hi
  have HZ := Lib.hid hz
  have l1 := lt_of_cell h1
  have l2 := lt_of_cell h2
  have l3 := boxLt h3 (by simp)
  clear hT hx hi hz
  cases T
  · rw [if_neg (by decide)]
    go_enter Try.func109, Try.ntmps109
    go_wp2_with fail
    refine HT.out.mono ?_
    rintro e w1 ⟨rfl, hb1⟩
    have hA := boxK hb1 h3 (by simp)
    have HX1 := Lib.hid (HX.out.below hb1)
    have HB1 := Lib.hid hb1
    clear hb1
    go_wp2_with fail
    refine (pixel_val HI.out HZ.out HX1.out hr hc (by omega)).mono ?_
    rintro e w2 ⟨rfl, hb2⟩
    have HB2 := Lib.hid (bt0 HB1.out hb2 (Nat.le_refl _))
    clear hb2
    go_wp2_with fail
    go_ret
    exact ⟨rfl, HB2.out⟩
  · rw [if_pos rfl]
    go_enter Try.func109, Try.ntmps109
    go_wp2_with fail
    refine HT.out.mono ?_
    rintro e w1 ⟨rfl, hb1⟩
    have h2' := (hb1.cell (p := ⟨b2, 0, none⟩) l2).trans h2
    have HB1 := Lib.hid hb1
    clear hb1
    go_wp2_with fail
    go_ret
    exact ⟨rfl, HB1.out⟩

theorem painted1_enter : ∀ (args : Array Value) (W : World), (callFunc 109 args).run Try.prog W = .ok (.enter 109 args) W := fun args W => by kernel_rfl
theorem getD_at {xs : List Int} {i : Nat} (h : i < xs.length) : xs[i]? = some (xs.getD i 0) := by rw [List.getD_eq_getElem?_getD, List.getElem?_eq_getElem h]; rfl

set_option maxRecDepth 100000 in
set_option maxHeartbeats 1000000 in
theorem painted_any (K2 : FuncId) (V2 : Value) (T : Nat → Nat → Bool) (a : Option Addr) (xs : List Int) (cp n m : Nat) (g : Int) (w : World) (hx : IntsAt w a xs) (hl : xs.length = n * m) (hN2 : n * m ≤ 40000) (hn : n ≤ 400) (hm : m ≤ 400)
    (hE : ∀ (args : Array Value) (W : World), (callFunc K2 args).run Try.prog W = .ok (.enter K2 args) W)
    (hT : ∀ W (r c : Nat), r < n → c < m → Calls Try.prog K2 #[V2, .int .i64 (r : Int), .int .i64 (c : Int)] W fun e W' => e = .returned (.bool (T r c)) ∧ Below W.heap.size W W') :
    Calls Try.prog 108 #[.agg #[.int .i64 (n : Int), .int .i64 (m : Int), .slice a xs.length cp], .func (.func K2) #[V2] #[], .int .i64 g] w (RetRas w n m (pix (fun r c => if T r c = true then g else xs.getD (r * m + c) 0) m (n * m))) := by
  have HX := Lib.hid hx
  have HL := Lib.hid hl
  have HE := Lib.hid hE
  have HE1 := Lib.hid painted1_enter
  have HT := Lib.hid hT
  have hlen : xs.length ≤ 40000 := by omega
  clear hx hl hT hE
  obtain ⟨N, hN⟩ : ∃ N, n * m = N := ⟨_, rfl⟩
  have HNN := Lib.hid hN
  rw [hN] at hN2 ⊢
  clear hN
  have hmf := run_makeFunc'' Try.prog
  go_enter Try.func108, Try.ntmps108
  go_wp2_with fail
  obtain ⟨q1, q2, q3, q4⟩ := heap4 w (.cells #[.int .i64 (n : Int), .int .i64 (m : Int), .slice a xs.length cp] 28 (0, 0)) (.cells #[.func (.func K2) #[V2] #[]] 80 (0, 0)) (.cells #[.int .i64 g] 2 (0, 0)) (.cells #[.int .i64 0, .int .i64 0, .slice none 0 0] 28 (0, 0))
  have HW := Lib.hid (ba4 w (.cells #[.int .i64 (n : Int), .int .i64 (m : Int), .slice a xs.length cp] 28 (0, 0)) (.cells #[.func (.func K2) #[V2] #[]] 80 (0, 0)) (.cells #[.int .i64 g] 2 (0, 0)) (.cells #[.int .i64 0, .int .i64 0, .slice none 0 0] 28 (0, 0)))
  generalize ((((w.alloc (.cells #[.int .i64 (n : Int), .int .i64 (m : Int), .slice a xs.length cp] 28 (0, 0))).alloc (.cells #[.func (.func K2) #[V2] #[]] 80 (0, 0))).alloc (.cells #[.int .i64 g] 2 (0, 0))).alloc (.cells #[.int .i64 0, .int .i64 0, .slice none 0 0] 28 (0, 0))) = w4 at *
  have HQ := Lib.hid (And.intro q1 (And.intro q2 (And.intro q3 q4)))
  clear q1 q2 q3 q4
  refine (raster_any 109 #[] #[.pointer (some ⟨w.heap.size + 1, 0, none⟩), .pointer (some ⟨w.heap.size + 1 + 1, 0, none⟩), .pointer (some ⟨w.heap.size, 0, none⟩)] n m N (fun r c => if T r c = true then g else xs.getD (r * m + c) 0) _ HNN.out.symm hN2 hn hm HE1.out ?_).mono ?_
  · intro W hb r c hr hc
    obtain ⟨q1, q2, q3, q4⟩ := HQ.out
    have hi := pix_in hr hc
    rw [← HL.out] at hi
    exact painted1_val ((heap_cellR (blkK hb q2)).1 0) ((heap_cellR (blkK hb q3)).1 0) (heap_cellR (blkK hb q1)).1 HE.out (HT.out W r c hr hc) rfl (getD_at hi) ((HX.out.below HW.out).below hb) (by omega) (by omega) hlen
  rintro e w1 ⟨a1, c1, rfl, ho, hb1⟩
  obtain ⟨hc4, hf4⟩ := heap_cellR (blkK hb1 HQ.out.2.2.2)
  have HB1 := Lib.hid hb1
  have HO := Lib.hid ho
  have hs4 := blkLt HQ.out.2.2.2
  have hs1 := hb1.size
  clear hb1 ho hmf
  go_wp2_with fail
  exact bodyPost_ret (v := .agg #[.int .i64 (n : Int), .int .i64 (m : Int), .slice a1 (pix (fun r c => if T r c = true then g else xs.getD (r * m + c) 0) m N).length c1]) (by simp [results, Try.results108, go_sem, hc4]) rfl (retRas_box HW.out HO.out HB1.out (by omega) (by omega) _ _ _)

end Go.Proofs.Ythnjfdhijpfekaa
namespace Go.Proofs.Ythnjfdhijpfekaa
open Go.RowKit

theorem blot_enter : ∀ (args : Array Value) (W : World), (callFunc 78 args).run Try.prog W = .ok (.enter 78 args) W := fun args W => by kernel_rfl
set_option maxRecDepth 100000 in
set_option maxHeartbeats 1000000 in
theorem blotApply_any (r c t w g : Int) (a : Option Addr) (xs : List Int) (cp n m : Nat) (W : World) (hd : dmOk 1 r c t w g = true) (hx : IntsAt W a xs) (hl : xs.length = n * m) (hN2 : n * m ≤ 40000) (hn : n ≤ 400) (hm : m ≤ 400) :
    Calls Try.prog 104 #[.agg #[.int .i64 1, .int .i64 r, .int .i64 c, .int .i64 t, .int .i64 w, .int .i64 g], .agg #[.int .i64 (n : Int), .int .i64 (m : Int), .slice a xs.length cp]] W (RetRas W n m (dmgL 1 r c t w g n m xs)) := by
  obtain ⟨_, hr, hc, ht, hw, hg, _⟩ := dm_bounds hd
  have HX := Lib.hid hx
  have HL := Lib.hid hl
  have hlen : xs.length ≤ 40000 := by omega
  have hmf := run_makeFunc'' Try.prog
  have HE : Hid (dmgL 1 r c t w g n m xs = pix (fun y x => if touchB 1 r c t w y x = true then g else xs.getD (y * m + x) 0) m (n * m)) := Lib.hid (by rw [dmgL_pix (by decide)]; rfl)
  clear hx hl hd
  go_enter Try.func104, Try.ntmps104
  go_wp2_with fail
  obtain ⟨q1, q2, q3⟩ := heap3 W (.cells #[.int .i64 1, .int .i64 r, .int .i64 c, .int .i64 t, .int .i64 w, .int .i64 g] 120 (0, 0)) (.cells #[.int .i64 (n : Int), .int .i64 (m : Int), .slice a xs.length cp] 28 (0, 0)) (.cells #[.int .i64 0, .int .i64 0, .slice none 0 0] 28 (0, 0))
  have HW := Lib.hid (ba3 W (.cells #[.int .i64 1, .int .i64 r, .int .i64 c, .int .i64 t, .int .i64 w, .int .i64 g] 120 (0, 0)) (.cells #[.int .i64 (n : Int), .int .i64 (m : Int), .slice a xs.length cp] 28 (0, 0)) (.cells #[.int .i64 0, .int .i64 0, .slice none 0 0] 28 (0, 0)))
  generalize ((W.alloc (.cells #[.int .i64 1, .int .i64 r, .int .i64 c, .int .i64 t, .int .i64 w, .int .i64 g] 120 (0, 0))).alloc (.cells #[.int .i64 (n : Int), .int .i64 (m : Int), .slice a xs.length cp] 28 (0, 0))).alloc (.cells #[.int .i64 0, .int .i64 0, .slice none 0 0] 28 (0, 0)) = w4 at *
  have HQ := Lib.hid q3
  clear q1 q2 q3
  refine (painted_any 78 (.agg #[.int .i64 1, .int .i64 r, .int .i64 c, .int .i64 t, .int .i64 w, .int .i64 g]) (fun y x => touchB 1 r c t w y x) a xs cp n m g _ (HX.out.below HW.out) HL.out hN2 hn hm blot_enter (fun W y x hy hx => blotTouches_val rfl hr hc ht ⟨by omega, by omega⟩ ⟨by omega, by omega⟩)).mono ?_
  rintro e w1 ⟨a1, c1, rfl, ho, hb1⟩
  obtain ⟨hc4, hf4⟩ := heap_cellR (blkK hb1 HQ.out)
  have HB1 := Lib.hid hb1
  have HO := Lib.hid ho
  have hs4 := blkLt HQ.out
  have hs1 := hb1.size
  clear hb1 ho hmf
  go_wp2_with fail
  refine bodyPost_ret (v := .agg #[.int .i64 (n : Int), .int .i64 (m : Int), .slice a1 (pix (fun y x => if touchB 1 r c t w y x = true then g else xs.getD (y * m + x) 0) m (n * m)).length c1]) (by simp [results, Try.results104, go_sem, hc4]) rfl ?_
  rw [HE.out]
  exact retRas_box HW.out HO.out HB1.out (by omega) (by omega) _ _ _

theorem scratch_enter : ∀ (args : Array Value) (W : World), (callFunc 79 args).run Try.prog W = .ok (.enter 79 args) W := fun args W => by kernel_rfl
set_option maxRecDepth 100000 in
set_option maxHeartbeats 1000000 in
theorem scratchApply_any (r c t w g : Int) (a : Option Addr) (xs : List Int) (cp n m : Nat) (W : World) (hd : dmOk 2 r c t w g = true) (hx : IntsAt W a xs) (hl : xs.length = n * m) (hN2 : n * m ≤ 40000) (hn : n ≤ 400) (hm : m ≤ 400) :
    Calls Try.prog 110 #[.agg #[.int .i64 2, .int .i64 r, .int .i64 c, .int .i64 t, .int .i64 w, .int .i64 g], .agg #[.int .i64 (n : Int), .int .i64 (m : Int), .slice a xs.length cp]] W (RetRas W n m (dmgL 2 r c t w g n m xs)) := by
  obtain ⟨_, hr, hc, ht, hw, hg, _⟩ := dm_bounds hd
  have HX := Lib.hid hx
  have HL := Lib.hid hl
  have hlen : xs.length ≤ 40000 := by omega
  have hmf := run_makeFunc'' Try.prog
  have HE : Hid (dmgL 2 r c t w g n m xs = pix (fun y x => if touchB 2 r c t w y x = true then g else xs.getD (y * m + x) 0) m (n * m)) := Lib.hid (by rw [dmgL_pix (by decide)]; rfl)
  clear hx hl hd
  go_enter Try.func110, Try.ntmps110
  go_wp2_with fail
  obtain ⟨q1, q2, q3⟩ := heap3 W (.cells #[.int .i64 2, .int .i64 r, .int .i64 c, .int .i64 t, .int .i64 w, .int .i64 g] 121 (0, 0)) (.cells #[.int .i64 (n : Int), .int .i64 (m : Int), .slice a xs.length cp] 28 (0, 0)) (.cells #[.int .i64 0, .int .i64 0, .slice none 0 0] 28 (0, 0))
  have HW := Lib.hid (ba3 W (.cells #[.int .i64 2, .int .i64 r, .int .i64 c, .int .i64 t, .int .i64 w, .int .i64 g] 121 (0, 0)) (.cells #[.int .i64 (n : Int), .int .i64 (m : Int), .slice a xs.length cp] 28 (0, 0)) (.cells #[.int .i64 0, .int .i64 0, .slice none 0 0] 28 (0, 0)))
  generalize ((W.alloc (.cells #[.int .i64 2, .int .i64 r, .int .i64 c, .int .i64 t, .int .i64 w, .int .i64 g] 121 (0, 0))).alloc (.cells #[.int .i64 (n : Int), .int .i64 (m : Int), .slice a xs.length cp] 28 (0, 0))).alloc (.cells #[.int .i64 0, .int .i64 0, .slice none 0 0] 28 (0, 0)) = w4 at *
  have HQ := Lib.hid q3
  clear q1 q2 q3
  refine (painted_any 79 (.agg #[.int .i64 2, .int .i64 r, .int .i64 c, .int .i64 t, .int .i64 w, .int .i64 g]) (fun y x => touchB 2 r c t w y x) a xs cp n m g _ (HX.out.below HW.out) HL.out hN2 hn hm scratch_enter (fun W y x hy hx => scratchTouches_val rfl hr hc ht hw)).mono ?_
  rintro e w1 ⟨a1, c1, rfl, ho, hb1⟩
  obtain ⟨hc4, hf4⟩ := heap_cellR (blkK hb1 HQ.out)
  have HB1 := Lib.hid hb1
  have HO := Lib.hid ho
  have hs4 := blkLt HQ.out
  have hs1 := hb1.size
  clear hb1 ho hmf
  go_wp2_with fail
  refine bodyPost_ret (v := .agg #[.int .i64 (n : Int), .int .i64 (m : Int), .slice a1 (pix (fun y x => if touchB 2 r c t w y x = true then g else xs.getD (y * m + x) 0) m (n * m)).length c1]) (by simp [results, Try.results110, go_sem, hc4]) rfl ?_
  rw [HE.out]
  exact retRas_box HW.out HO.out HB1.out (by omega) (by omega) _ _ _

theorem mul_bd {x y : Int} (h1 : 0 ≤ x) (h2 : x ≤ 400) (h3 : -400 ≤ y) (h4 : y ≤ 400) : -160000 ≤ x * y ∧ x * y ≤ 160000 := by
  have a : x * y ≤ x * 400 := Int.mul_le_mul_of_nonneg_left h4 h1
  have b : x * (-400) ≤ x * y := Int.mul_le_mul_of_nonneg_left h3 h1
  omega
theorem ediv_bd {a b : Int} (hb : 1 ≤ b) (h1 : -160000 ≤ a) (h2 : a ≤ 160000) : -160000 ≤ a / b ∧ a / b ≤ 160000 := by
  have h := Int.mul_ediv_add_emod a b
  have h3 := Int.emod_nonneg a (b := b) (by omega)
  have h4 := Int.emod_lt_of_pos a (b := b) (by omega)
  constructor
  · apply Int.le_ediv_of_mul_le (by omega)
    have : (-160000) * b ≤ (-160000) * 1 := Int.mul_le_mul_of_nonpos_left (by omega) (by omega)
    omega
  · rcases Int.le_total 0 a with h0 | h0
    · have := Int.ediv_le_self b h0
      omega
    · have : a / b ≤ 0 := Int.ediv_nonpos_of_nonpos_of_neg h0 (by omega)
      omega
set_option maxRecDepth 100000 in
set_option maxHeartbeats 600000 in
theorem skew1_val {r c t w g : Int} {a : Option Addr} {xs : List Int} {cp n m y x b1 b2 : Nat} {W : World} (h1 : ∀ i, W.cell? ⟨b1, i, none⟩ = (#[.int .i64 3, .int .i64 r, .int .i64 c, .int .i64 t, .int .i64 w, .int .i64 g] : Array Value)[i]?) (h2 : ∀ i, W.cell? ⟨b2, i, none⟩ = (#[.int .i64 (n : Int), .int .i64 (m : Int), .slice a xs.length cp] : Array Value)[i]?)
    (hx : IntsAt W a xs) (hl : xs.length = n * m) (hN2 : n * m ≤ 40000) (hn : n ≤ 400) (hm : m ≤ 400) (hy : y < n) (hxm : x < m) (ht1 : 1 ≤ t) (ht2 : t ≤ 400) (hw1 : -400 ≤ w) (hw2 : w ≤ 400) :
    Calls Try.prog 118 #[.int .i64 (y : Int), .int .i64 (x : Int), .pointer (some ⟨b1, 0, none⟩), .pointer (some ⟨b2, 0, none⟩)] W fun e W' => e = .returned (.int .i64 (dpix 3 r c t w g m xs y x)) ∧ Below W.heap.size W W' := by
  obtain ⟨s1, s2⟩ := mul_bd (x := (y : Int)) (y := w) (by omega) (by omega) hw1 hw2
  obtain ⟨z, hz⟩ : ∃ z, (y : Int) * w / t = z := ⟨_, rfl⟩
  obtain ⟨s3, s4⟩ := ediv_bd ht1 s1 s2
  have HZ := Lib.hid hz
  rw [hz] at s3 s4
  have HX := Lib.hid hx
  have HL := Lib.hid hl
  have hlen : xs.length ≤ 40000 := by omega
  clear hx hl hz
  have HD : Hid (dpix 3 r c t w g m xs y x = if inB ((x : Int) - z) 0 ((m : Int) - 1) = true then xs.getD (y * m + ((x : Int) - z).toNat) 0 else g) := Lib.hid (by rw [dpix, if_pos rfl, HZ.out])
  rcases Bool.eq_false_or_eq_true (inB ((x : Int) - z) 0 ((m : Int) - 1)) with h3 | h3
  · have h4 := inB_iff.1 h3
    have H3 := Lib.hid h3
    clear h3
    obtain ⟨q, hq⟩ : ∃ q : Nat, (x : Int) - z = q := Int.eq_ofNat_of_zero_le h4.1
    have hqm : q < m := by omega
    have HQ := Lib.hid hq
    clear hq h4
    have hi := pix_in hy hqm
    rw [← HL.out] at hi
    have HI := Lib.hid hi
    clear hi
    go_enter Try.func118, Try.ntmps118
    go_wp2_with fail
    refine (floorDiv_val HZ.out ht1 (by omega) (by omega) (by omega)).mono ?_
    rintro e w1 ⟨rfl, rfl⟩
    go_wp2_with fail
    refine (inRange_val H3.out).mono ?_
    rintro e w1 ⟨rfl, rfl⟩
    go_wp2_with fail
    rw [HQ.out]
    refine (pixel_val rfl (getD_at HI.out) HX.out (by omega) (by omega) (by omega)).mono ?_
    rintro e w2 ⟨rfl, hb2⟩
    have HB2 := Lib.hid hb2
    clear hb2
    go_wp2_with fail
    go_ret
    exact ⟨ret_int (by rw [HD.out, if_pos H3.out, HQ.out]; rfl), HB2.out⟩
  · have H3 := Lib.hid h3
    clear h3
    go_enter Try.func118, Try.ntmps118
    go_wp2_with fail
    refine (floorDiv_val HZ.out ht1 (by omega) (by omega) (by omega)).mono ?_
    rintro e w1 ⟨rfl, rfl⟩
    go_wp2_with fail
    refine (inRange_val H3.out).mono ?_
    rintro e w1 ⟨rfl, rfl⟩
    go_wp2_with fail
    go_ret
    exact ⟨ret_int (by rw [HD.out, if_neg (by rw [H3.out]; decide)]), Below.refl _ _⟩

set_option maxRecDepth 100000 in
set_option maxHeartbeats 600000 in
theorem fade1_val {r c t w g : Int} {a : Option Addr} {xs : List Int} {cp n m y x b1 b2 : Nat} {W : World} (h1 : ∀ i, W.cell? ⟨b1, i, none⟩ = (#[.int .i64 5, .int .i64 r, .int .i64 c, .int .i64 t, .int .i64 w, .int .i64 g] : Array Value)[i]?) (h2 : ∀ i, W.cell? ⟨b2, i, none⟩ = (#[.int .i64 (n : Int), .int .i64 (m : Int), .slice a xs.length cp] : Array Value)[i]?)
    (hx : IntsAt W a xs) (hl : xs.length = n * m) (hN2 : n * m ≤ 40000) (hn : n ≤ 400) (hm : m ≤ 400) (hy : y < n) (hxm : x < m) (ht1 : 0 ≤ t) (ht2 : t ≤ 256) (hg1 : 0 ≤ g) (hg2 : g ≤ 255) (hgr : Greys xs) :
    Calls Try.prog 128 #[.int .i64 (y : Int), .int .i64 (x : Int), .pointer (some ⟨b2, 0, none⟩), .pointer (some ⟨b1, 0, none⟩)] W fun e W' => e = .returned (.int .i64 (dpix 5 r c t w g m xs y x)) ∧ Below W.heap.size W W' := by
  have hi := pix_in hy hxm
  rw [← hl] at hi
  obtain ⟨v, hv⟩ : ∃ v, xs.getD (y * m + x) 0 = v := ⟨_, rfl⟩
  have hvb := getD_grey hgr (y * m + x)
  rw [hv] at hvb
  obtain ⟨s1, s2, s3, s4⟩ := fade_mid hvb ⟨ht1, ht2⟩ ⟨hg1, hg2⟩
  have HD : Hid (dpix 5 r c t w g m xs y x = (v * t + g * (256 - t)) / 256) := Lib.hid (by rw [dpix, if_neg (by decide), if_pos rfl, hv])
  have HZ := Lib.hid ((getD_at hi).trans (by rw [hv]))
  have HX := Lib.hid hx
  have l1 := boxLt h1 (by simp)
  have l2 := boxLt h2 (by simp)
  have hlen : xs.length ≤ 40000 := by omega
  clear hx hl hv hvb hi hgr
  go_enter Try.func128, Try.ntmps128
  go_wp2_with fail
  refine wp_region_ext (by kernel_rfl) (by kernel_rfl) ?_
  repeat (go_big_quiet_step ((go_at_call 71; go_must (apply calls_ext; exact pixel_val rfl HZ.out (HX.out.below (Ext.below _)) (by omega) (by omega) (by omega)))))
  refine wpQuiet_nil ?_
  rintro _ ⟨s, rfl⟩
  have HB := Lib.hid s.below
  go_wp2_with fail
  go_ret
  exact ⟨ret_int HD.out.symm, HB.out⟩

theorem skew1_enter : ∀ (args : Array Value) (W : World), (callFunc 118 args).run Try.prog W = .ok (.enter 118 args) W := fun args W => by kernel_rfl
set_option maxRecDepth 100000 in
set_option maxHeartbeats 1000000 in
theorem skewApply_any (r c t w g : Int) (a : Option Addr) (xs : List Int) (cp n m : Nat) (W : World) (hd : dmOk 3 r c t w g = true) (hx : IntsAt W a xs) (hl : xs.length = n * m) (hN2 : n * m ≤ 40000) (hn : n ≤ 400) (hm : m ≤ 400) :
    Calls Try.prog 114 #[.agg #[.int .i64 3, .int .i64 r, .int .i64 c, .int .i64 t, .int .i64 w, .int .i64 g], .agg #[.int .i64 (n : Int), .int .i64 (m : Int), .slice a xs.length cp]] W (RetRas W n m (dmgL 3 r c t w g n m xs)) := by
  obtain ⟨_, hr, hc, ht, hw, hg, hq3, hq5⟩ := dm_bounds hd
  have hq := hq3 rfl
  have HX := Lib.hid hx
  have HL := Lib.hid hl
  have hlen : xs.length ≤ 40000 := by omega
  have hmf := run_makeFunc'' Try.prog
  have HE : Hid (dmgL 3 r c t w g n m xs = pix (dpix 3 r c t w g m xs) m (n * m)) := Lib.hid (by rw [dmgL_pix (by decide)])
  clear hx hl hd hq3 hq5
  go_enter Try.func114, Try.ntmps114
  go_wp2_with fail
  obtain ⟨q1, q2, q3⟩ := heap3 W (.cells #[.int .i64 3, .int .i64 r, .int .i64 c, .int .i64 t, .int .i64 w, .int .i64 g] 122 (0, 0)) (.cells #[.int .i64 (n : Int), .int .i64 (m : Int), .slice a xs.length cp] 28 (0, 0)) (.cells #[.int .i64 0, .int .i64 0, .slice none 0 0] 28 (0, 0))
  have HW := Lib.hid (ba3 W (.cells #[.int .i64 3, .int .i64 r, .int .i64 c, .int .i64 t, .int .i64 w, .int .i64 g] 122 (0, 0)) (.cells #[.int .i64 (n : Int), .int .i64 (m : Int), .slice a xs.length cp] 28 (0, 0)) (.cells #[.int .i64 0, .int .i64 0, .slice none 0 0] 28 (0, 0)))
  generalize ((W.alloc (.cells #[.int .i64 3, .int .i64 r, .int .i64 c, .int .i64 t, .int .i64 w, .int .i64 g] 122 (0, 0))).alloc (.cells #[.int .i64 (n : Int), .int .i64 (m : Int), .slice a xs.length cp] 28 (0, 0))).alloc (.cells #[.int .i64 0, .int .i64 0, .slice none 0 0] 28 (0, 0)) = w4 at *
  have HQ := Lib.hid (And.intro q1 (And.intro q2 q3))
  clear q1 q2 q3
  refine (raster_any 118 #[] #[.pointer (some ⟨W.heap.size, 0, none⟩), .pointer (some ⟨W.heap.size + 1, 0, none⟩)] n m (n * m) (dpix 3 r c t w g m xs) _ rfl hN2 hn hm skew1_enter ?_).mono ?_
  · intro W' hb y x hy hx
    obtain ⟨q1, q2, q3⟩ := HQ.out
    exact skew1_val (heap_cellR (blkK hb q1)).1 (heap_cellR (blkK hb q2)).1 ((HX.out.below HW.out).below hb) HL.out hN2 hn hm hy hx hq ht.2 hw.1 hw.2
  rintro e w1 ⟨a1, c1, rfl, ho, hb1⟩
  obtain ⟨hc4, hf4⟩ := heap_cellR (blkK hb1 HQ.out.2.2)
  have HB1 := Lib.hid hb1
  have HO := Lib.hid ho
  have hs4 := blkLt HQ.out.2.2
  have hs1 := hb1.size
  clear hb1 ho hmf
  go_wp2_with fail
  refine bodyPost_ret (v := .agg #[.int .i64 (n : Int), .int .i64 (m : Int), .slice a1 (pix (dpix 3 r c t w g m xs) m (n * m)).length c1]) (by simp [results, Try.results114, go_sem, hc4]) rfl ?_
  rw [HE.out]
  exact retRas_box HW.out HO.out HB1.out (by omega) (by omega) _ _ _

theorem fade1_enter : ∀ (args : Array Value) (W : World), (callFunc 128 args).run Try.prog W = .ok (.enter 128 args) W := fun args W => by kernel_rfl
set_option maxRecDepth 100000 in
set_option maxHeartbeats 1000000 in
theorem fadeApply_any (r c t w g : Int) (a : Option Addr) (xs : List Int) (cp n m : Nat) (W : World) (hd : dmOk 5 r c t w g = true) (hx : IntsAt W a xs) (hl : xs.length = n * m) (hN2 : n * m ≤ 40000) (hn : n ≤ 400) (hm : m ≤ 400) (hgr : Greys xs) :
    Calls Try.prog 124 #[.agg #[.int .i64 5, .int .i64 r, .int .i64 c, .int .i64 t, .int .i64 w, .int .i64 g], .agg #[.int .i64 (n : Int), .int .i64 (m : Int), .slice a xs.length cp]] W (RetRas W n m (dmgL 5 r c t w g n m xs)) := by
  obtain ⟨_, hr, hc, ht, hw, hg, hq3, hq5⟩ := dm_bounds hd
  have hq := hq5 rfl
  have HX := Lib.hid hx
  have HL := Lib.hid hl
  have hlen : xs.length ≤ 40000 := by omega
  have hmf := run_makeFunc'' Try.prog
  have HE : Hid (dmgL 5 r c t w g n m xs = pix (dpix 5 r c t w g m xs) m (n * m)) := Lib.hid (by rw [dmgL_pix (by decide)])
  clear hx hl hd hq3 hq5
  go_enter Try.func124, Try.ntmps124
  go_wp2_with fail
  obtain ⟨q1, q2, q3⟩ := heap3 W (.cells #[.int .i64 5, .int .i64 r, .int .i64 c, .int .i64 t, .int .i64 w, .int .i64 g] 124 (0, 0)) (.cells #[.int .i64 (n : Int), .int .i64 (m : Int), .slice a xs.length cp] 28 (0, 0)) (.cells #[.int .i64 0, .int .i64 0, .slice none 0 0] 28 (0, 0))
  have HW := Lib.hid (ba3 W (.cells #[.int .i64 5, .int .i64 r, .int .i64 c, .int .i64 t, .int .i64 w, .int .i64 g] 124 (0, 0)) (.cells #[.int .i64 (n : Int), .int .i64 (m : Int), .slice a xs.length cp] 28 (0, 0)) (.cells #[.int .i64 0, .int .i64 0, .slice none 0 0] 28 (0, 0)))
  generalize ((W.alloc (.cells #[.int .i64 5, .int .i64 r, .int .i64 c, .int .i64 t, .int .i64 w, .int .i64 g] 124 (0, 0))).alloc (.cells #[.int .i64 (n : Int), .int .i64 (m : Int), .slice a xs.length cp] 28 (0, 0))).alloc (.cells #[.int .i64 0, .int .i64 0, .slice none 0 0] 28 (0, 0)) = w4 at *
  have HQ := Lib.hid (And.intro q1 (And.intro q2 q3))
  clear q1 q2 q3
  refine (raster_any 128 #[] #[.pointer (some ⟨W.heap.size + 1, 0, none⟩), .pointer (some ⟨W.heap.size, 0, none⟩)] n m (n * m) (dpix 5 r c t w g m xs) _ rfl hN2 hn hm fade1_enter ?_).mono ?_
  · intro W' hb y x hy hx
    obtain ⟨q1, q2, q3⟩ := HQ.out
    exact fade1_val (heap_cellR (blkK hb q1)).1 (heap_cellR (blkK hb q2)).1 ((HX.out.below HW.out).below hb) HL.out hN2 hn hm hy hx ht.1 hq hg.1 hg.2 hgr
  rintro e w1 ⟨a1, c1, rfl, ho, hb1⟩
  obtain ⟨hc4, hf4⟩ := heap_cellR (blkK hb1 HQ.out.2.2)
  have HB1 := Lib.hid hb1
  have HO := Lib.hid ho
  have hs4 := blkLt HQ.out.2.2
  have hs1 := hb1.size
  clear hb1 ho hmf
  go_wp2_with fail
  refine bodyPost_ret (v := .agg #[.int .i64 (n : Int), .int .i64 (m : Int), .slice a1 (pix (dpix 5 r c t w g m xs) m (n * m)).length c1]) (by simp [results, Try.results124, go_sem, hc4]) rfl ?_
  rw [HE.out]
  exact retRas_box HW.out HO.out HB1.out (by omega) (by omega) _ _ _

end Go.Proofs.Ythnjfdhijpfekaa
namespace Go.Proofs.Ythnjfdhijpfekaa
open Go.RowKit

/-- while noise falls -/
def NoiseAt (W wr : World) (V : Array Value) (BX g0 N c1 b0 : Nat) (n m : Int) (zs : List Int) : Prop :=
  OwnI wr b0 (.slice (some ⟨g0, 0, none⟩) N c1) zs ∧ wr.heap[BX]? = some (.cells #[.int .i64 n, .int .i64 m, .slice (some ⟨g0, 0, none⟩) N c1] 28 (0, 0)) ∧ wr.heap[W.heap.size]? = some (.cells V 123 (0, 0)) ∧ wr.heap[W.heap.size + 1 + 1]? = some (.cells #[.int .i64 0, .int .i64 0, .slice none 0 0] 28 (0, 0)) ∧ Below W.heap.size W wr
theorem NoiseAt.step {W wr : World} {V : Array Value} {BX g0 N c1 b0 q : Nat} {n m g : Int} {zs : List Int} (h : NoiseAt W wr V BX g0 N c1 b0 n m zs) (hN : N = zs.length) (hb0 : W.heap.size + 1 + 1 < b0) (hg0 : b0 ≤ g0) (hne : g0 ≠ BX) :
    NoiseAt W (wr.setCell ⟨g0, q, none⟩ (.int .i64 g)) V BX g0 N c1 b0 n m (zs.set q g) := by
  obtain ⟨h1, h2, h3, h4, h5⟩ := h
  obtain ⟨k1, k2⟩ := OwnI.stored h1 hN q g
  refine ⟨k1, (k2.block _ (blkLt h2) (fun e => hne (Option.some.inj e).symm)).trans h2, (k2.block _ (blkLt h3) (fun e => by have := Option.some.inj e; omega)).trans h3, (k2.block _ (blkLt h4) (fun e => by have := Option.some.inj e; omega)).trans h4, h5.setCell (by dsimp only; omega) _⟩
theorem NoiseAt.drew {W wr : World} {V : Array Value} {BX g0 N c1 b0 : Nat} {n m : Int} {zs : List Int} (h : NoiseAt W wr V BX g0 N c1 b0 n m zs) : NoiseAt W wr.drew V BX g0 N c1 b0 n m zs := ⟨h.1, h.2.1, h.2.2.1, h.2.2.2.1, h.2.2.2.2.drew⟩

set_option maxRecDepth 100000 in
set_option maxHeartbeats 2000000 in
theorem noiseApply_any (r c t w g : Int) (a : Option Addr) (xs : List Int) (cp n m : Nat) (W : World) (hd : dmOk 4 r c t w g = true) (hx : IntsAt W a xs) (hl : xs.length = n * m) (hN2 : n * m ≤ 40000) (hn : n ≤ 400) (hm : m ≤ 400) (hN1 : 1 ≤ n * m) :
    Calls Try.prog 120 #[.agg #[.int .i64 4, .int .i64 r, .int .i64 c, .int .i64 t, .int .i64 w, .int .i64 g], .agg #[.int .i64 (n : Int), .int .i64 (m : Int), .slice a xs.length cp]] W (RetRas W n m (dmgL 4 r c t w g n m xs)) := by
  obtain ⟨_, hr, hc, ht, hw, hg, _⟩ := dm_bounds hd
  have HX := Lib.hid hx
  have HL := Lib.hid hl
  have hlen : xs.length ≤ 40000 := by omega
  have hlen1 : 1 ≤ xs.length := by omega
  have HE : Hid (dmgL 4 r c t w g n m xs = (nz g xs.length (r, xs) t.toNat).2) := Lib.hid (by rw [dmgL_noise, hl])
  clear hx hl hd
  go_enter Try.func120, Try.ntmps120
  go_wp2_with fail
  obtain ⟨q1, q2, q3⟩ := heap3 W (.cells #[.int .i64 4, .int .i64 r, .int .i64 c, .int .i64 t, .int .i64 w, .int .i64 g] 123 (0, 0)) (.cells #[.int .i64 (n : Int), .int .i64 (m : Int), .slice a xs.length cp] 28 (0, 0)) (.cells #[.int .i64 0, .int .i64 0, .slice none 0 0] 28 (0, 0))
  have HW := Lib.hid (ba3 W (.cells #[.int .i64 4, .int .i64 r, .int .i64 c, .int .i64 t, .int .i64 w, .int .i64 g] 123 (0, 0)) (.cells #[.int .i64 (n : Int), .int .i64 (m : Int), .slice a xs.length cp] 28 (0, 0)) (.cells #[.int .i64 0, .int .i64 0, .slice none 0 0] 28 (0, 0)))
  have hs4 : ((W.alloc (.cells #[.int .i64 4, .int .i64 r, .int .i64 c, .int .i64 t, .int .i64 w, .int .i64 g] 123 (0, 0))).alloc (.cells #[.int .i64 (n : Int), .int .i64 (m : Int), .slice a xs.length cp] 28 (0, 0)) |>.alloc (.cells #[.int .i64 0, .int .i64 0, .slice none 0 0] 28 (0, 0))).heap.size = W.heap.size + 1 + 1 + 1 := by simp
  generalize ((W.alloc (.cells #[.int .i64 4, .int .i64 r, .int .i64 c, .int .i64 t, .int .i64 w, .int .i64 g] 123 (0, 0))).alloc (.cells #[.int .i64 (n : Int), .int .i64 (m : Int), .slice a xs.length cp] 28 (0, 0))).alloc (.cells #[.int .i64 0, .int .i64 0, .slice none 0 0] 28 (0, 0)) = w4 at *
  have HQ := Lib.hid (And.intro q1 q3)
  have HS4 := Lib.hid hs4
  clear q1 q2 q3 hs4
  refine (copy_any a xs cp n m _ (HX.out.below HW.out) HL.out hN2 hn hm).mono ?_
  rintro e w1 ⟨a1, c1, rfl, ho, hb1⟩
  obtain ⟨g0, rfl, hg0, _, hg1⟩ := OwnI.block ho (by omega)
  rw [HS4.out] at hg0
  have hc1 := (heap_cellR (blkK hb1 HQ.out.1)).1
  have HN0 : Hid (NoiseAt W (w1.alloc (.cells #[.int .i64 (n : Int), .int .i64 (m : Int), .slice (some ⟨g0, 0, none⟩) xs.length c1] 28 (0, 0))) #[.int .i64 4, .int .i64 r, .int .i64 c, .int .i64 t, .int .i64 w, .int .i64 g] w1.heap.size g0 xs.length c1 (W.heap.size + 1 + 1 + 1) n m xs) :=
    Lib.hid ⟨by rw [← HS4.out]; exact ho.grown (ba1 _ _), push_at _ _, push_old (blkK hb1 HQ.out.1), push_old (blkK hb1 HQ.out.2), bt0 (bt0 HW.out hb1 (Nat.le_refl _)) (ba1 _ _) (Nat.le_refl _)⟩
  have hw1 : W.heap.size + 1 + 1 < w1.heap.size := by have := hb1.size; have := HS4.out; omega
  have hw0 : W.heap.size < w1.heap.size := by omega
  clear ho hb1
  go_wp2_with fail
  obtain ⟨tn, htn⟩ : ∃ tn : Nat, t = tn := Int.eq_ofNat_of_zero_le ht.1
  subst htn
  clear hc1
  go_loopw [6, 7] (fun x i wr => ∃ k : Nat, k ≤ tn ∧ i = .int .i64 k ∧ x = .int .i64 (nz g xs.length (r, xs) k).1 ∧ NoiseAt W wr #[.int .i64 4, .int .i64 r, .int .i64 c, .int .i64 (tn : Int), .int .i64 w, .int .i64 g] w1.heap.size g0 xs.length c1 (W.heap.size + 1 + 1 + 1) n m (nz g xs.length (r, xs) k).2) (fun _ i _ => tn - (intOf i).toNat)
  case atStart => exact ⟨0, Nat.zero_le _, rfl, rfl, HN0.out⟩
  case round =>
    clear HN0
    obtain ⟨k, hk, rfl, rfl, hna⟩ := hrel
    have hc1 := (heap_cellR hna.2.2.1).1
    have hc2 := heap_cellR hna.2.2.2.1
    have hc3 := (heap_cellR hna.2.1).1
    have HN := Lib.hid hna
    clear hna
    by_cases hlt : k < tn
    · have hki : (k : Int) < (tn : Int) := by omega
      obtain ⟨y, hy⟩ : ∃ y, (nz g xs.length (r, xs) k).1 = y := ⟨_, rfl⟩
      obtain ⟨zs, hzs⟩ : ∃ zs, (nz g xs.length (r, xs) k).2 = zs := ⟨_, rfl⟩
      have hyb := nz_x (g := g) (N := xs.length) (p := (r, xs)) (by dsimp only; omega) k
      have hzl := nz_len (g := g) (N := xs.length) (p := (r, xs)) k
      have hnx : nz g xs.length (r, xs) (k + 1) = ((75 * y + 74) % 65537, zs.set (((75 * y + 74) % 65537) % (xs.length : Int)).toNat g) := by rw [← hy, ← hzs]; rfl
      rw [hy] at hyb
      rw [hzs] at HN hzl
      rw [hy]
      obtain ⟨y0, y1⟩ := hyb
      have HNX := Lib.hid hnx
      have HZL := Lib.hid hzl
      clear hy hzs hnx hzl
      go_wp2_with fail
      obtain ⟨x2, hx2⟩ : ∃ x2, (75 * y + 74) % 65537 = x2 := ⟨_, rfl⟩
      have x20 : 0 ≤ x2 := by omega
      have x21 : x2 < 65537 := by omega
      rw [hx2] at HNX ⊢
      clear hx2
      obtain ⟨q, hq⟩ : ∃ q : Nat, x2 % (xs.length : Int) = q := Int.eq_ofNat_of_zero_le (Int.emod_nonneg _ (by omega))
      have hqlt : q < xs.length := by have := Int.emod_lt_of_pos x2 (b := (xs.length : Int)) (by omega); omega
      have hqi : (q : Int) < (xs.length : Int) := by omega
      have htm : x2.tmod (xs.length : Int) = q := by rw [Int.tmod_eq_emod_of_nonneg x20]; exact hq
      rw [hq] at HNX
      have HTM := Lib.hid htm
      have HQ2 := Lib.hid hq
      clear htm hq hc1 hc2 hc3
      refine wp_region_rs (Keep := fun _ _ => True) [24, 25, 26, 27, 28, 29, 30, 31, 32, 33, 34] (fun us => _)
        [spN (· = .pointer (some ⟨w1.heap.size, 2, none⟩)), spN (· = .slice (some ⟨g0, 0, none⟩) xs.length c1), spN (· = .int .i64 x2), spN (· = .pointer (some ⟨w1.heap.size, 2, none⟩)), spN (· = .slice (some ⟨g0, 0, none⟩) xs.length c1), spN (· = .int .i64 (xs.length : Int)), spN (· = .int .i64 (q : Int)), spN (· = .pointer (some ⟨W.heap.size, 0, none⟩)), spN (· = .pointer (some ⟨W.heap.size, 5, none⟩)), spN (· = .int .i64 g), spN (· = .pointer (some ⟨g0, q, none⟩))]
        (fun W' => NoiseAt W W' #[.int .i64 4, .int .i64 r, .int .i64 c, .int .i64 (tn : Int), .int .i64 w, .int .i64 g] w1.heap.size g0 xs.length c1 (W.heap.size + 1 + 1 + 1) n m zs) (by kernel_rfl) (by kernel_rfl) (Nat.le_of_ble_eq_true rfl) (fun us => by simp [over, List.mapIdx_cons]; exact rfl) HN.out.drew (fun w => trivial) ?_ ?_
      · refine ⟨?_, ?_, ?_, ?_, ?_, ?_, ?_, ?_, ?_, ?_, ?_, trivial⟩
        all_goals (intro us wx hst hd; rw [if_pos (by kernel_rfl)]; dsimp only)
        · clear hd
          go_simp
          exact n_same hst rfl
        · have d24 : us 24 = .pointer (some ⟨w1.heap.size, 2, none⟩) := hd ⟨0, .data⟩ (by simp) rfl
          clear hd
          have hc3 := (heap_cellR hst.2.1).1
          go_simp
          exact n_same hst rfl
        · clear hd
          go_simp
          exact n_same hst rfl
        · clear hd
          go_simp
          exact n_same hst rfl
        · have d27 : us 27 = .pointer (some ⟨w1.heap.size, 2, none⟩) := hd ⟨3, .data⟩ (by simp) rfl
          clear hd
          have hc3 := (heap_cellR hst.2.1).1
          go_simp
          exact n_same hst rfl
        · have d28 : us 28 = .slice (some ⟨g0, 0, none⟩) xs.length c1 := hd ⟨4, .data⟩ (by simp) rfl
          clear hd
          go_simp
          exact n_same hst rfl
        · have d26 : us 26 = .int .i64 x2 := hd ⟨2, .data⟩ (by simp) rfl
          have d29 : us 29 = .int .i64 (xs.length : Int) := hd ⟨5, .data⟩ (by simp) rfl
          clear hd
          go_simp
          rw [if_neg (by intro h; rw [h] at hlen1; simp at hlen1)]
          exact n_same hst (by show _ = _; rw [HTM.out])
        · clear hd
          go_simp
          exact n_same hst rfl
        · have d31 : us 31 = .pointer (some ⟨W.heap.size, 0, none⟩) := hd ⟨7, .data⟩ (by simp) rfl
          clear hd
          go_simp
          exact n_same hst rfl
        · have d32 : us 32 = .pointer (some ⟨W.heap.size, 5, none⟩) := hd ⟨8, .data⟩ (by simp) rfl
          clear hd
          have hc1 := (heap_cellR hst.2.2.1).1
          go_simp
          exact n_same hst rfl
        · have d25 : us 25 = .slice (some ⟨g0, 0, none⟩) xs.length c1 := hd ⟨1, .data⟩ (by simp) rfl
          have d30 : us 30 = .int .i64 (q : Int) := hd ⟨6, .data⟩ (by simp) rfl
          clear hd
          go_simp
          exact n_same hst rfl
      · intro us wx hst hd
        have d34 : us 34 = .pointer (some ⟨g0, q, none⟩) := hd 10 (by simp)
        have d33 : us 33 = .int .i64 g := hd 9 (by simp)
        clear hd
        obtain ⟨z, _, hcz, hfz⟩ := OwnI.cellAt hst.1 HZL.out.symm (k := q) (by rw [HZL.out]; exact hqlt)
        have HS := Lib.hid (hst.step (q := q) (g := g) HZL.out.symm (by omega) hg0 (by omega))
        clear hst
        simp only [List.drop, List.length]
        rw [d34, d33]
        clear d34 d33
        go_wp2_with fail
        exact ⟨⟨k + 1, by omega, by go_num, by rw [HNX.out], by rw [HNX.out]; exact HS.out⟩, by simp [intOf]; omega⟩
    · obtain rfl : k = tn := by omega
      have hne : ¬ (k : Int) < (k : Int) := by omega
      obtain ⟨hc21, hc22⟩ := hc2
      go_wp2_with fail
      have hz := nz_len (g := g) (N := xs.length) (p := (r, xs)) k
      refine bodyPost_ret (v := .agg #[.int .i64 (n : Int), .int .i64 (m : Int), .slice (some ⟨g0, 0, none⟩) xs.length c1]) (by simp [results, Try.results120, go_sem, hc21]) rfl ?_
      rw [HE.out, Int.toNat_natCast]
      refine ⟨some ⟨g0, 0, none⟩, c1, by rw [hz], ?_, ?_⟩
      · rw [hz]
        refine OwnI.weak (base := W.heap.size + 1 + 1 + 1) ?_ (by omega)
        iterate 3 (refine OwnI.setOld ?_ (by dsimp only; omega) _)
        exact HN.out.1
      · iterate 3 (refine Below.setCell ?_ (by dsimp only; omega) _)
        exact HN.out.2.2.2.2

end Go.Proofs.Ythnjfdhijpfekaa
namespace Go.Proofs.Ythnjfdhijpfekaa
open Go.RowKit

set_option maxHeartbeats 600000 in
theorem blotFine_any (k r c t w g : Int) (W : World) : Calls Try.prog 106 #[.agg #[.int .i64 k, .int .i64 r, .int .i64 c, .int .i64 t, .int .i64 w, .int .i64 g]] W fun e W' => e = .returned (.bool (inB r 0 400 && inB c 0 400 && inB t 0 400 && (w == 0))) ∧ Below W.heap.size W W' := by
  rcases four (inB r 0 400) (inB c 0 400) (inB t 0 400) ((w == 0)) with h1 | ⟨h1, h2⟩ | ⟨h1, h2, h3⟩ | ⟨h1, h2, h3, h4⟩ | ⟨h1, h2, h3, h4⟩
  · have e : (inB r 0 400 && inB c 0 400 && inB t 0 400 && (w == 0)) = false := by (rw [h1]; rfl)
    rw [e]
    clear e
    go_enter Try.func106, Try.ntmps106
    go_wp2_with fail
    refine (inRange_val h1).mono ?_
    rintro e w1 ⟨rfl, rfl⟩
    go_wp2_with fail
    go_ret
    exact ⟨rfl, ba1 _ _⟩
  · have e : (inB r 0 400 && inB c 0 400 && inB t 0 400 && (w == 0)) = false := by (rw [h1, h2]; rfl)
    rw [e]
    clear e
    go_enter Try.func106, Try.ntmps106
    go_wp2_with fail
    refine (inRange_val h1).mono ?_
    rintro e w1 ⟨rfl, rfl⟩
    go_wp2_with fail
    refine (inRange_val h2).mono ?_
    rintro e w1 ⟨rfl, rfl⟩
    go_wp2_with fail
    go_ret
    exact ⟨rfl, ba1 _ _⟩
  · have e : (inB r 0 400 && inB c 0 400 && inB t 0 400 && (w == 0)) = false := by (rw [h1, h2, h3]; rfl)
    rw [e]
    clear e
    go_enter Try.func106, Try.ntmps106
    go_wp2_with fail
    refine (inRange_val h1).mono ?_
    rintro e w1 ⟨rfl, rfl⟩
    go_wp2_with fail
    refine (inRange_val h2).mono ?_
    rintro e w1 ⟨rfl, rfl⟩
    go_wp2_with fail
    refine (inRange_val h3).mono ?_
    rintro e w1 ⟨rfl, rfl⟩
    go_wp2_with fail
    go_ret
    exact ⟨rfl, ba1 _ _⟩
  · have e : (inB r 0 400 && inB c 0 400 && inB t 0 400 && (w == 0)) = false := by (rw [h1, h2, h3, h4]; rfl)
    rw [e]
    clear e
    go_enter Try.func106, Try.ntmps106
    go_wp2_with fail
    refine (inRange_val h1).mono ?_
    rintro e w1 ⟨rfl, rfl⟩
    go_wp2_with fail
    refine (inRange_val h2).mono ?_
    rintro e w1 ⟨rfl, rfl⟩
    go_wp2_with fail
    refine (inRange_val h3).mono ?_
    rintro e w1 ⟨rfl, rfl⟩
    go_wp2_with fail
    go_ret
    exact ⟨rfl, ba1 _ _⟩
  · have e : (inB r 0 400 && inB c 0 400 && inB t 0 400 && (w == 0)) = true := by (rw [h1, h2, h3, h4]; rfl)
    rw [e]
    clear e
    go_enter Try.func106, Try.ntmps106
    go_wp2_with fail
    refine (inRange_val h1).mono ?_
    rintro e w1 ⟨rfl, rfl⟩
    go_wp2_with fail
    refine (inRange_val h2).mono ?_
    rintro e w1 ⟨rfl, rfl⟩
    go_wp2_with fail
    refine (inRange_val h3).mono ?_
    rintro e w1 ⟨rfl, rfl⟩
    go_wp2_with fail
    go_ret
    exact ⟨rfl, ba1 _ _⟩

set_option maxHeartbeats 600000 in
theorem scratchFine_any (k r c t w g : Int) (W : World) : Calls Try.prog 112 #[.agg #[.int .i64 k, .int .i64 r, .int .i64 c, .int .i64 t, .int .i64 w, .int .i64 g]] W fun e W' => e = .returned (.bool (inB r 0 400 && inB c 0 400 && inB t 1 400 && inB w 1 400)) ∧ Below W.heap.size W W' := by
  rcases four (inB r 0 400) (inB c 0 400) (inB t 1 400) (inB w 1 400) with h1 | ⟨h1, h2⟩ | ⟨h1, h2, h3⟩ | ⟨h1, h2, h3, h4⟩ | ⟨h1, h2, h3, h4⟩
  · have e : (inB r 0 400 && inB c 0 400 && inB t 1 400 && inB w 1 400) = false := by (rw [h1]; rfl)
    rw [e]
    clear e
    go_enter Try.func112, Try.ntmps112
    go_wp2_with fail
    refine (inRange_val h1).mono ?_
    rintro e w1 ⟨rfl, rfl⟩
    go_wp2_with fail
    go_ret
    exact ⟨rfl, ba1 _ _⟩
  · have e : (inB r 0 400 && inB c 0 400 && inB t 1 400 && inB w 1 400) = false := by (rw [h1, h2]; rfl)
    rw [e]
    clear e
    go_enter Try.func112, Try.ntmps112
    go_wp2_with fail
    refine (inRange_val h1).mono ?_
    rintro e w1 ⟨rfl, rfl⟩
    go_wp2_with fail
    refine (inRange_val h2).mono ?_
    rintro e w1 ⟨rfl, rfl⟩
    go_wp2_with fail
    go_ret
    exact ⟨rfl, ba1 _ _⟩
  · have e : (inB r 0 400 && inB c 0 400 && inB t 1 400 && inB w 1 400) = false := by (rw [h1, h2, h3]; rfl)
    rw [e]
    clear e
    go_enter Try.func112, Try.ntmps112
    go_wp2_with fail
    refine (inRange_val h1).mono ?_
    rintro e w1 ⟨rfl, rfl⟩
    go_wp2_with fail
    refine (inRange_val h2).mono ?_
    rintro e w1 ⟨rfl, rfl⟩
    go_wp2_with fail
    refine (inRange_val h3).mono ?_
    rintro e w1 ⟨rfl, rfl⟩
    go_wp2_with fail
    go_ret
    exact ⟨rfl, ba1 _ _⟩
  · have e : (inB r 0 400 && inB c 0 400 && inB t 1 400 && inB w 1 400) = false := by (rw [h1, h2, h3, h4]; rfl)
    rw [e]
    clear e
    go_enter Try.func112, Try.ntmps112
    go_wp2_with fail
    refine (inRange_val h1).mono ?_
    rintro e w1 ⟨rfl, rfl⟩
    go_wp2_with fail
    refine (inRange_val h2).mono ?_
    rintro e w1 ⟨rfl, rfl⟩
    go_wp2_with fail
    refine (inRange_val h3).mono ?_
    rintro e w1 ⟨rfl, rfl⟩
    go_wp2_with fail
    refine (inRange_val h4).mono ?_
    rintro e w1 ⟨rfl, rfl⟩
    go_wp2_with fail
    go_ret
    exact ⟨rfl, ba1 _ _⟩
  · have e : (inB r 0 400 && inB c 0 400 && inB t 1 400 && inB w 1 400) = true := by (rw [h1, h2, h3, h4]; rfl)
    rw [e]
    clear e
    go_enter Try.func112, Try.ntmps112
    go_wp2_with fail
    refine (inRange_val h1).mono ?_
    rintro e w1 ⟨rfl, rfl⟩
    go_wp2_with fail
    refine (inRange_val h2).mono ?_
    rintro e w1 ⟨rfl, rfl⟩
    go_wp2_with fail
    refine (inRange_val h3).mono ?_
    rintro e w1 ⟨rfl, rfl⟩
    go_wp2_with fail
    refine (inRange_val h4).mono ?_
    rintro e w1 ⟨rfl, rfl⟩
    go_wp2_with fail
    go_ret
    exact ⟨rfl, ba1 _ _⟩

set_option maxHeartbeats 600000 in
theorem skewFine_any (k r c t w g : Int) (W : World) : Calls Try.prog 116 #[.agg #[.int .i64 k, .int .i64 r, .int .i64 c, .int .i64 t, .int .i64 w, .int .i64 g]] W fun e W' => e = .returned (.bool ((r == 0) && (c == 0) && inB t 1 400 && inB w (-400) 400)) ∧ Below W.heap.size W W' := by
  rcases four ((r == 0)) ((c == 0)) (inB t 1 400) (inB w (-400) 400) with h1 | ⟨h1, h2⟩ | ⟨h1, h2, h3⟩ | ⟨h1, h2, h3, h4⟩ | ⟨h1, h2, h3, h4⟩
  · have e : ((r == 0) && (c == 0) && inB t 1 400 && inB w (-400) 400) = false := by (rw [h1]; rfl)
    rw [e]
    clear e
    go_enter Try.func116, Try.ntmps116
    go_wp2_with fail
    go_ret
    exact ⟨rfl, ba1 _ _⟩
  · have e : ((r == 0) && (c == 0) && inB t 1 400 && inB w (-400) 400) = false := by (rw [h1, h2]; rfl)
    rw [e]
    clear e
    go_enter Try.func116, Try.ntmps116
    go_wp2_with fail
    go_ret
    exact ⟨rfl, ba1 _ _⟩
  · have e : ((r == 0) && (c == 0) && inB t 1 400 && inB w (-400) 400) = false := by (rw [h1, h2, h3]; rfl)
    rw [e]
    clear e
    go_enter Try.func116, Try.ntmps116
    go_wp2_with fail
    refine (inRange_val h3).mono ?_
    rintro e w1 ⟨rfl, rfl⟩
    go_wp2_with fail
    go_ret
    exact ⟨rfl, ba1 _ _⟩
  · have e : ((r == 0) && (c == 0) && inB t 1 400 && inB w (-400) 400) = false := by (rw [h1, h2, h3, h4]; rfl)
    rw [e]
    clear e
    go_enter Try.func116, Try.ntmps116
    go_wp2_with fail
    refine (inRange_val h3).mono ?_
    rintro e w1 ⟨rfl, rfl⟩
    go_wp2_with fail
    refine (inRange_val h4).mono ?_
    rintro e w1 ⟨rfl, rfl⟩
    go_wp2_with fail
    go_ret
    exact ⟨rfl, ba1 _ _⟩
  · have e : ((r == 0) && (c == 0) && inB t 1 400 && inB w (-400) 400) = true := by (rw [h1, h2, h3, h4]; rfl)
    rw [e]
    clear e
    go_enter Try.func116, Try.ntmps116
    go_wp2_with fail
    refine (inRange_val h3).mono ?_
    rintro e w1 ⟨rfl, rfl⟩
    go_wp2_with fail
    refine (inRange_val h4).mono ?_
    rintro e w1 ⟨rfl, rfl⟩
    go_wp2_with fail
    go_ret
    exact ⟨rfl, ba1 _ _⟩

set_option maxHeartbeats 600000 in
theorem noiseFine_any (k r c t w g : Int) (W : World) : Calls Try.prog 122 #[.agg #[.int .i64 k, .int .i64 r, .int .i64 c, .int .i64 t, .int .i64 w, .int .i64 g]] W fun e W' => e = .returned (.bool (inB r 0 400 && inB t 0 400 && (c == 0) && (w == 0))) ∧ Below W.heap.size W W' := by
  rcases four (inB r 0 400) (inB t 0 400) ((c == 0)) ((w == 0)) with h1 | ⟨h1, h2⟩ | ⟨h1, h2, h3⟩ | ⟨h1, h2, h3, h4⟩ | ⟨h1, h2, h3, h4⟩
  · have e : (inB r 0 400 && inB t 0 400 && (c == 0) && (w == 0)) = false := by (rw [h1]; rfl)
    rw [e]
    clear e
    go_enter Try.func122, Try.ntmps122
    go_wp2_with fail
    refine (inRange_val h1).mono ?_
    rintro e w1 ⟨rfl, rfl⟩
    go_wp2_with fail
    go_ret
    exact ⟨rfl, ba1 _ _⟩
  · have e : (inB r 0 400 && inB t 0 400 && (c == 0) && (w == 0)) = false := by (rw [h1, h2]; rfl)
    rw [e]
    clear e
    go_enter Try.func122, Try.ntmps122
    go_wp2_with fail
    refine (inRange_val h1).mono ?_
    rintro e w1 ⟨rfl, rfl⟩
    go_wp2_with fail
    refine (inRange_val h2).mono ?_
    rintro e w1 ⟨rfl, rfl⟩
    go_wp2_with fail
    go_ret
    exact ⟨rfl, ba1 _ _⟩
  · have e : (inB r 0 400 && inB t 0 400 && (c == 0) && (w == 0)) = false := by (rw [h1, h2, h3]; rfl)
    rw [e]
    clear e
    go_enter Try.func122, Try.ntmps122
    go_wp2_with fail
    refine (inRange_val h1).mono ?_
    rintro e w1 ⟨rfl, rfl⟩
    go_wp2_with fail
    refine (inRange_val h2).mono ?_
    rintro e w1 ⟨rfl, rfl⟩
    go_wp2_with fail
    go_ret
    exact ⟨rfl, ba1 _ _⟩
  · have e : (inB r 0 400 && inB t 0 400 && (c == 0) && (w == 0)) = false := by (rw [h1, h2, h3, h4]; rfl)
    rw [e]
    clear e
    go_enter Try.func122, Try.ntmps122
    go_wp2_with fail
    refine (inRange_val h1).mono ?_
    rintro e w1 ⟨rfl, rfl⟩
    go_wp2_with fail
    refine (inRange_val h2).mono ?_
    rintro e w1 ⟨rfl, rfl⟩
    go_wp2_with fail
    go_ret
    exact ⟨rfl, ba1 _ _⟩
  · have e : (inB r 0 400 && inB t 0 400 && (c == 0) && (w == 0)) = true := by (rw [h1, h2, h3, h4]; rfl)
    rw [e]
    clear e
    go_enter Try.func122, Try.ntmps122
    go_wp2_with fail
    refine (inRange_val h1).mono ?_
    rintro e w1 ⟨rfl, rfl⟩
    go_wp2_with fail
    refine (inRange_val h2).mono ?_
    rintro e w1 ⟨rfl, rfl⟩
    go_wp2_with fail
    go_ret
    exact ⟨rfl, ba1 _ _⟩

set_option maxHeartbeats 600000 in
theorem fadeFine_any (k r c t w g : Int) (W : World) : Calls Try.prog 126 #[.agg #[.int .i64 k, .int .i64 r, .int .i64 c, .int .i64 t, .int .i64 w, .int .i64 g]] W fun e W' => e = .returned (.bool ((r == 0) && (c == 0) && (w == 0) && inB t 0 256)) ∧ Below W.heap.size W W' := by
  rcases four ((r == 0)) ((c == 0)) ((w == 0)) (inB t 0 256) with h1 | ⟨h1, h2⟩ | ⟨h1, h2, h3⟩ | ⟨h1, h2, h3, h4⟩ | ⟨h1, h2, h3, h4⟩
  · have e : ((r == 0) && (c == 0) && (w == 0) && inB t 0 256) = false := by (rw [h1]; rfl)
    rw [e]
    clear e
    go_enter Try.func126, Try.ntmps126
    go_wp2_with fail
    go_ret
    exact ⟨rfl, ba1 _ _⟩
  · have e : ((r == 0) && (c == 0) && (w == 0) && inB t 0 256) = false := by (rw [h1, h2]; rfl)
    rw [e]
    clear e
    go_enter Try.func126, Try.ntmps126
    go_wp2_with fail
    go_ret
    exact ⟨rfl, ba1 _ _⟩
  · have e : ((r == 0) && (c == 0) && (w == 0) && inB t 0 256) = false := by (rw [h1, h2, h3]; rfl)
    rw [e]
    clear e
    go_enter Try.func126, Try.ntmps126
    go_wp2_with fail
    go_ret
    exact ⟨rfl, ba1 _ _⟩
  · have e : ((r == 0) && (c == 0) && (w == 0) && inB t 0 256) = false := by (rw [h1, h2, h3, h4]; rfl)
    rw [e]
    clear e
    go_enter Try.func126, Try.ntmps126
    go_wp2_with fail
    refine (inRange_val h4).mono ?_
    rintro e w1 ⟨rfl, rfl⟩
    go_wp2_with fail
    go_ret
    exact ⟨rfl, ba1 _ _⟩
  · have e : ((r == 0) && (c == 0) && (w == 0) && inB t 0 256) = true := by (rw [h1, h2, h3, h4]; rfl)
    rw [e]
    clear e
    go_enter Try.func126, Try.ntmps126
    go_wp2_with fail
    refine (inRange_val h4).mono ?_
    rintro e w1 ⟨rfl, rfl⟩
    go_wp2_with fail
    go_ret
    exact ⟨rfl, ba1 _ _⟩

end Go.Proofs.Ythnjfdhijpfekaa
namespace Go.Proofs.Ythnjfdhijpfekaa
open Go.RowKit

set_option maxHeartbeats 400000 in
theorem harm1 (r c t w g : Int) (W : World) : Calls Try.prog 56 #[.agg #[.int .i64 1, .int .i64 r, .int .i64 c, .int .i64 t, .int .i64 w, .int .i64 g]] W fun e W' => e = .returned (.tuple #[.iface 120 (.agg #[.int .i64 1, .int .i64 r, .int .i64 c, .int .i64 t, .int .i64 w, .int .i64 g]), .bool true]) ∧ Below W.heap.size W W' := by
  go_enter Try.func56, Try.ntmps56
  go_wp2_with fail
  go_ret2
  exact ⟨rfl, ba1 _ _⟩

set_option maxHeartbeats 400000 in
theorem harm2 (r c t w g : Int) (W : World) : Calls Try.prog 56 #[.agg #[.int .i64 2, .int .i64 r, .int .i64 c, .int .i64 t, .int .i64 w, .int .i64 g]] W fun e W' => e = .returned (.tuple #[.iface 121 (.agg #[.int .i64 2, .int .i64 r, .int .i64 c, .int .i64 t, .int .i64 w, .int .i64 g]), .bool true]) ∧ Below W.heap.size W W' := by
  go_enter Try.func56, Try.ntmps56
  go_wp2_with fail
  go_ret2
  exact ⟨rfl, ba1 _ _⟩

set_option maxHeartbeats 400000 in
theorem harm3 (r c t w g : Int) (W : World) : Calls Try.prog 56 #[.agg #[.int .i64 3, .int .i64 r, .int .i64 c, .int .i64 t, .int .i64 w, .int .i64 g]] W fun e W' => e = .returned (.tuple #[.iface 122 (.agg #[.int .i64 3, .int .i64 r, .int .i64 c, .int .i64 t, .int .i64 w, .int .i64 g]), .bool true]) ∧ Below W.heap.size W W' := by
  go_enter Try.func56, Try.ntmps56
  go_wp2_with fail
  go_ret2
  exact ⟨rfl, ba1 _ _⟩

set_option maxHeartbeats 400000 in
theorem harm4 (r c t w g : Int) (W : World) : Calls Try.prog 56 #[.agg #[.int .i64 4, .int .i64 r, .int .i64 c, .int .i64 t, .int .i64 w, .int .i64 g]] W fun e W' => e = .returned (.tuple #[.iface 123 (.agg #[.int .i64 4, .int .i64 r, .int .i64 c, .int .i64 t, .int .i64 w, .int .i64 g]), .bool true]) ∧ Below W.heap.size W W' := by
  go_enter Try.func56, Try.ntmps56
  go_wp2_with fail
  go_ret2
  exact ⟨rfl, ba1 _ _⟩

set_option maxHeartbeats 400000 in
theorem harm5 (r c t w g : Int) (W : World) : Calls Try.prog 56 #[.agg #[.int .i64 5, .int .i64 r, .int .i64 c, .int .i64 t, .int .i64 w, .int .i64 g]] W fun e W' => e = .returned (.tuple #[.iface 124 (.agg #[.int .i64 5, .int .i64 r, .int .i64 c, .int .i64 t, .int .i64 w, .int .i64 g]), .bool true]) ∧ Below W.heap.size W W' := by
  go_enter Try.func56, Try.ntmps56
  go_wp2_with fail
  go_ret2
  exact ⟨rfl, ba1 _ _⟩

set_option maxHeartbeats 400000 in
theorem harm0 (k r c t w g : Int) (W : World) (h : k < 1 ∨ 5 < k) : Calls Try.prog 56 #[.agg #[.int .i64 k, .int .i64 r, .int .i64 c, .int .i64 t, .int .i64 w, .int .i64 g]] W fun e W' => e = .returned (.tuple #[.iface 124 (.agg #[.int .i64 k, .int .i64 r, .int .i64 c, .int .i64 t, .int .i64 w, .int .i64 g]), .bool false]) ∧ Below W.heap.size W W' := by
  have h1 : (k == 1) = false := by simp; omega
  have h2 : (k == 2) = false := by simp; omega
  have h3 : (k == 3) = false := by simp; omega
  have h4 : (k == 4) = false := by simp; omega
  have h5 : (k == 5) = false := by simp; omega
  clear h
  go_enter Try.func56, Try.ntmps56
  go_wp2_with fail
  go_ret2
  exact ⟨rfl, ba1 _ _⟩

end Go.Proofs.Ythnjfdhijpfekaa
namespace Go.Proofs.Ythnjfdhijpfekaa
open Go.RowKit

theorem methodFine1 (r c t w g : Int) (n : Nat) (W : World) : (method (n + 1) 120 (.agg #[.int .i64 1, .int .i64 r, .int .i64 c, .int .i64 t, .int .i64 w, .int .i64 g]) "loop.example/g00879/impl.fine").run Try.prog W = .ok (106, (.agg #[.int .i64 1, .int .i64 r, .int .i64 c, .int .i64 t, .int .i64 w, .int .i64 g])) W := by kernel_rfl
theorem blotFine_val {k r c t w g : Int} {b : Bool} {W : World} (hk : k = 1) (h : fineB k r c t w = b) : Calls Try.prog 106 #[(.agg #[.int .i64 k, .int .i64 r, .int .i64 c, .int .i64 t, .int .i64 w, .int .i64 g])] W fun e W' => e = .returned (.bool b) ∧ Below W.heap.size W W' := by
  subst hk
  rw [fine1] at h
  exact h ▸ blotFine_any 1 r c t w g W
set_option maxRecDepth 100000 in
set_option maxHeartbeats 1000000 in
theorem isDamage1 (r c t w g : Int) (W : World) : Calls Try.prog 23 #[(.agg #[.int .i64 1, .int .i64 r, .int .i64 c, .int .i64 t, .int .i64 w, .int .i64 g])] W fun e W' => e = .returned (.bool (dmOk 1 r c t w g)) ∧ Below W.heap.size W W' := by
  have hm := methodFine1 r c t w g
  rcases Bool.eq_false_or_eq_true (fineB 1 r c t w) with h1 | h1
  · rcases Bool.eq_false_or_eq_true (inB g 0 255) with h2 | h2
    all_goals
      have e : dmOk 1 r c t w g = inB g 0 255 := by rw [dmOk, h1]; rfl
      rw [h2] at e
      rw [e]
      clear e
      have H1 := Lib.hid h1
      have H2 := Lib.hid h2
      clear h1 h2
      go_enter Try.func23, Try.ntmps23
      go_wp2_with fail
      refine (harm1 _ _ _ _ _ _).mono ?_
      rintro e w1 ⟨rfl, hb1⟩
      have hA := box1 hb1
      have HB1 := Lib.hid (bt1 hb1)
      clear hb1
      go_wp2_with fail
      refine (blotFine_val rfl H1.out).mono ?_
      rintro e w2 ⟨rfl, hb2⟩
      replace hA := boxK hb2 hA (by simp)
      have HB2 := Lib.hid (bt0 HB1.out hb2 (Nat.le_refl _))
      clear hb2
      go_wp2_with fail
      refine (inRange_val H2.out).mono ?_
      rintro e w3 ⟨rfl, rfl⟩
      go_wp2_with fail
      go_ret
      exact ⟨rfl, HB2.out⟩
  · have e : dmOk 1 r c t w g = false := by rw [dmOk, h1]; rfl
    rw [e]
    clear e
    have H1 := Lib.hid h1
    clear h1
    go_enter Try.func23, Try.ntmps23
    go_wp2_with fail
    refine (harm1 _ _ _ _ _ _).mono ?_
    rintro e w1 ⟨rfl, hb1⟩
    have HB1 := Lib.hid (bt1 hb1)
    clear hb1
    go_wp2_with fail
    refine (blotFine_val rfl H1.out).mono ?_
    rintro e w2 ⟨rfl, hb2⟩
    have HB2 := Lib.hid (bt0 HB1.out hb2 (Nat.le_refl _))
    clear hb2
    go_wp2_with fail
    go_ret
    exact ⟨rfl, HB2.out⟩

theorem methodFine2 (r c t w g : Int) (n : Nat) (W : World) : (method (n + 1) 121 (.agg #[.int .i64 2, .int .i64 r, .int .i64 c, .int .i64 t, .int .i64 w, .int .i64 g]) "loop.example/g00879/impl.fine").run Try.prog W = .ok (112, (.agg #[.int .i64 2, .int .i64 r, .int .i64 c, .int .i64 t, .int .i64 w, .int .i64 g])) W := by kernel_rfl
theorem scratchFine_val {k r c t w g : Int} {b : Bool} {W : World} (hk : k = 2) (h : fineB k r c t w = b) : Calls Try.prog 112 #[(.agg #[.int .i64 k, .int .i64 r, .int .i64 c, .int .i64 t, .int .i64 w, .int .i64 g])] W fun e W' => e = .returned (.bool b) ∧ Below W.heap.size W W' := by
  subst hk
  rw [fine2] at h
  exact h ▸ scratchFine_any 2 r c t w g W
set_option maxRecDepth 100000 in
set_option maxHeartbeats 1000000 in
theorem isDamage2 (r c t w g : Int) (W : World) : Calls Try.prog 23 #[(.agg #[.int .i64 2, .int .i64 r, .int .i64 c, .int .i64 t, .int .i64 w, .int .i64 g])] W fun e W' => e = .returned (.bool (dmOk 2 r c t w g)) ∧ Below W.heap.size W W' := by
  have hm := methodFine2 r c t w g
  rcases Bool.eq_false_or_eq_true (fineB 2 r c t w) with h1 | h1
  · rcases Bool.eq_false_or_eq_true (inB g 0 255) with h2 | h2
    all_goals
      have e : dmOk 2 r c t w g = inB g 0 255 := by rw [dmOk, h1]; rfl
      rw [h2] at e
      rw [e]
      clear e
      have H1 := Lib.hid h1
      have H2 := Lib.hid h2
      clear h1 h2
      go_enter Try.func23, Try.ntmps23
      go_wp2_with fail
      refine (harm2 _ _ _ _ _ _).mono ?_
      rintro e w1 ⟨rfl, hb1⟩
      have hA := box1 hb1
      have HB1 := Lib.hid (bt1 hb1)
      clear hb1
      go_wp2_with fail
      refine (scratchFine_val rfl H1.out).mono ?_
      rintro e w2 ⟨rfl, hb2⟩
      replace hA := boxK hb2 hA (by simp)
      have HB2 := Lib.hid (bt0 HB1.out hb2 (Nat.le_refl _))
      clear hb2
      go_wp2_with fail
      refine (inRange_val H2.out).mono ?_
      rintro e w3 ⟨rfl, rfl⟩
      go_wp2_with fail
      go_ret
      exact ⟨rfl, HB2.out⟩
  · have e : dmOk 2 r c t w g = false := by rw [dmOk, h1]; rfl
    rw [e]
    clear e
    have H1 := Lib.hid h1
    clear h1
    go_enter Try.func23, Try.ntmps23
    go_wp2_with fail
    refine (harm2 _ _ _ _ _ _).mono ?_
    rintro e w1 ⟨rfl, hb1⟩
    have HB1 := Lib.hid (bt1 hb1)
    clear hb1
    go_wp2_with fail
    refine (scratchFine_val rfl H1.out).mono ?_
    rintro e w2 ⟨rfl, hb2⟩
    have HB2 := Lib.hid (bt0 HB1.out hb2 (Nat.le_refl _))
    clear hb2
    go_wp2_with fail
    go_ret
    exact ⟨rfl, HB2.out⟩

theorem methodFine3 (r c t w g : Int) (n : Nat) (W : World) : (method (n + 1) 122 (.agg #[.int .i64 3, .int .i64 r, .int .i64 c, .int .i64 t, .int .i64 w, .int .i64 g]) "loop.example/g00879/impl.fine").run Try.prog W = .ok (116, (.agg #[.int .i64 3, .int .i64 r, .int .i64 c, .int .i64 t, .int .i64 w, .int .i64 g])) W := by kernel_rfl
theorem skewFine_val {k r c t w g : Int} {b : Bool} {W : World} (hk : k = 3) (h : fineB k r c t w = b) : Calls Try.prog 116 #[(.agg #[.int .i64 k, .int .i64 r, .int .i64 c, .int .i64 t, .int .i64 w, .int .i64 g])] W fun e W' => e = .returned (.bool b) ∧ Below W.heap.size W W' := by
  subst hk
  rw [fine3] at h
  exact h ▸ skewFine_any 3 r c t w g W
set_option maxRecDepth 100000 in
set_option maxHeartbeats 1000000 in
theorem isDamage3 (r c t w g : Int) (W : World) : Calls Try.prog 23 #[(.agg #[.int .i64 3, .int .i64 r, .int .i64 c, .int .i64 t, .int .i64 w, .int .i64 g])] W fun e W' => e = .returned (.bool (dmOk 3 r c t w g)) ∧ Below W.heap.size W W' := by
  have hm := methodFine3 r c t w g
  rcases Bool.eq_false_or_eq_true (fineB 3 r c t w) with h1 | h1
  · rcases Bool.eq_false_or_eq_true (inB g 0 255) with h2 | h2
    all_goals
      have e : dmOk 3 r c t w g = inB g 0 255 := by rw [dmOk, h1]; rfl
      rw [h2] at e
      rw [e]
      clear e
      have H1 := Lib.hid h1
      have H2 := Lib.hid h2
      clear h1 h2
      go_enter Try.func23, Try.ntmps23
      go_wp2_with fail
      refine (harm3 _ _ _ _ _ _).mono ?_
      rintro e w1 ⟨rfl, hb1⟩
      have hA := box1 hb1
      have HB1 := Lib.hid (bt1 hb1)
      clear hb1
      go_wp2_with fail
      refine (skewFine_val rfl H1.out).mono ?_
      rintro e w2 ⟨rfl, hb2⟩
      replace hA := boxK hb2 hA (by simp)
      have HB2 := Lib.hid (bt0 HB1.out hb2 (Nat.le_refl _))
      clear hb2
      go_wp2_with fail
      refine (inRange_val H2.out).mono ?_
      rintro e w3 ⟨rfl, rfl⟩
      go_wp2_with fail
      go_ret
      exact ⟨rfl, HB2.out⟩
  · have e : dmOk 3 r c t w g = false := by rw [dmOk, h1]; rfl
    rw [e]
    clear e
    have H1 := Lib.hid h1
    clear h1
    go_enter Try.func23, Try.ntmps23
    go_wp2_with fail
    refine (harm3 _ _ _ _ _ _).mono ?_
    rintro e w1 ⟨rfl, hb1⟩
    have HB1 := Lib.hid (bt1 hb1)
    clear hb1
    go_wp2_with fail
    refine (skewFine_val rfl H1.out).mono ?_
    rintro e w2 ⟨rfl, hb2⟩
    have HB2 := Lib.hid (bt0 HB1.out hb2 (Nat.le_refl _))
    clear hb2
    go_wp2_with fail
    go_ret
    exact ⟨rfl, HB2.out⟩

theorem methodFine4 (r c t w g : Int) (n : Nat) (W : World) : (method (n + 1) 123 (.agg #[.int .i64 4, .int .i64 r, .int .i64 c, .int .i64 t, .int .i64 w, .int .i64 g]) "loop.example/g00879/impl.fine").run Try.prog W = .ok (122, (.agg #[.int .i64 4, .int .i64 r, .int .i64 c, .int .i64 t, .int .i64 w, .int .i64 g])) W := by kernel_rfl
theorem noiseFine_val {k r c t w g : Int} {b : Bool} {W : World} (hk : k = 4) (h : fineB k r c t w = b) : Calls Try.prog 122 #[(.agg #[.int .i64 k, .int .i64 r, .int .i64 c, .int .i64 t, .int .i64 w, .int .i64 g])] W fun e W' => e = .returned (.bool b) ∧ Below W.heap.size W W' := by
  subst hk
  rw [fine4] at h
  exact h ▸ noiseFine_any 4 r c t w g W
set_option maxRecDepth 100000 in
set_option maxHeartbeats 1000000 in
theorem isDamage4 (r c t w g : Int) (W : World) : Calls Try.prog 23 #[(.agg #[.int .i64 4, .int .i64 r, .int .i64 c, .int .i64 t, .int .i64 w, .int .i64 g])] W fun e W' => e = .returned (.bool (dmOk 4 r c t w g)) ∧ Below W.heap.size W W' := by
  have hm := methodFine4 r c t w g
  rcases Bool.eq_false_or_eq_true (fineB 4 r c t w) with h1 | h1
  · rcases Bool.eq_false_or_eq_true (inB g 0 255) with h2 | h2
    all_goals
      have e : dmOk 4 r c t w g = inB g 0 255 := by rw [dmOk, h1]; rfl
      rw [h2] at e
      rw [e]
      clear e
      have H1 := Lib.hid h1
      have H2 := Lib.hid h2
      clear h1 h2
      go_enter Try.func23, Try.ntmps23
      go_wp2_with fail
      refine (harm4 _ _ _ _ _ _).mono ?_
      rintro e w1 ⟨rfl, hb1⟩
      have hA := box1 hb1
      have HB1 := Lib.hid (bt1 hb1)
      clear hb1
      go_wp2_with fail
      refine (noiseFine_val rfl H1.out).mono ?_
      rintro e w2 ⟨rfl, hb2⟩
      replace hA := boxK hb2 hA (by simp)
      have HB2 := Lib.hid (bt0 HB1.out hb2 (Nat.le_refl _))
      clear hb2
      go_wp2_with fail
      refine (inRange_val H2.out).mono ?_
      rintro e w3 ⟨rfl, rfl⟩
      go_wp2_with fail
      go_ret
      exact ⟨rfl, HB2.out⟩
  · have e : dmOk 4 r c t w g = false := by rw [dmOk, h1]; rfl
    rw [e]
    clear e
    have H1 := Lib.hid h1
    clear h1
    go_enter Try.func23, Try.ntmps23
    go_wp2_with fail
    refine (harm4 _ _ _ _ _ _).mono ?_
    rintro e w1 ⟨rfl, hb1⟩
    have HB1 := Lib.hid (bt1 hb1)
    clear hb1
    go_wp2_with fail
    refine (noiseFine_val rfl H1.out).mono ?_
    rintro e w2 ⟨rfl, hb2⟩
    have HB2 := Lib.hid (bt0 HB1.out hb2 (Nat.le_refl _))
    clear hb2
    go_wp2_with fail
    go_ret
    exact ⟨rfl, HB2.out⟩

theorem methodFine5 (r c t w g : Int) (n : Nat) (W : World) : (method (n + 1) 124 (.agg #[.int .i64 5, .int .i64 r, .int .i64 c, .int .i64 t, .int .i64 w, .int .i64 g]) "loop.example/g00879/impl.fine").run Try.prog W = .ok (126, (.agg #[.int .i64 5, .int .i64 r, .int .i64 c, .int .i64 t, .int .i64 w, .int .i64 g])) W := by kernel_rfl
theorem fadeFine_val {k r c t w g : Int} {b : Bool} {W : World} (hk : k = 5) (h : fineB k r c t w = b) : Calls Try.prog 126 #[(.agg #[.int .i64 k, .int .i64 r, .int .i64 c, .int .i64 t, .int .i64 w, .int .i64 g])] W fun e W' => e = .returned (.bool b) ∧ Below W.heap.size W W' := by
  subst hk
  rw [fine5] at h
  exact h ▸ fadeFine_any 5 r c t w g W
set_option maxRecDepth 100000 in
set_option maxHeartbeats 1000000 in
theorem isDamage5 (r c t w g : Int) (W : World) : Calls Try.prog 23 #[(.agg #[.int .i64 5, .int .i64 r, .int .i64 c, .int .i64 t, .int .i64 w, .int .i64 g])] W fun e W' => e = .returned (.bool (dmOk 5 r c t w g)) ∧ Below W.heap.size W W' := by
  have hm := methodFine5 r c t w g
  rcases Bool.eq_false_or_eq_true (fineB 5 r c t w) with h1 | h1
  · rcases Bool.eq_false_or_eq_true (inB g 0 255) with h2 | h2
    all_goals
      have e : dmOk 5 r c t w g = inB g 0 255 := by rw [dmOk, h1]; rfl
      rw [h2] at e
      rw [e]
      clear e
      have H1 := Lib.hid h1
      have H2 := Lib.hid h2
      clear h1 h2
      go_enter Try.func23, Try.ntmps23
      go_wp2_with fail
      refine (harm5 _ _ _ _ _ _).mono ?_
      rintro e w1 ⟨rfl, hb1⟩
      have hA := box1 hb1
      have HB1 := Lib.hid (bt1 hb1)
      clear hb1
      go_wp2_with fail
      refine (fadeFine_val rfl H1.out).mono ?_
      rintro e w2 ⟨rfl, hb2⟩
      replace hA := boxK hb2 hA (by simp)
      have HB2 := Lib.hid (bt0 HB1.out hb2 (Nat.le_refl _))
      clear hb2
      go_wp2_with fail
      refine (inRange_val H2.out).mono ?_
      rintro e w3 ⟨rfl, rfl⟩
      go_wp2_with fail
      go_ret
      exact ⟨rfl, HB2.out⟩
  · have e : dmOk 5 r c t w g = false := by rw [dmOk, h1]; rfl
    rw [e]
    clear e
    have H1 := Lib.hid h1
    clear h1
    go_enter Try.func23, Try.ntmps23
    go_wp2_with fail
    refine (harm5 _ _ _ _ _ _).mono ?_
    rintro e w1 ⟨rfl, hb1⟩
    have HB1 := Lib.hid (bt1 hb1)
    clear hb1
    go_wp2_with fail
    refine (fadeFine_val rfl H1.out).mono ?_
    rintro e w2 ⟨rfl, hb2⟩
    have HB2 := Lib.hid (bt0 HB1.out hb2 (Nat.le_refl _))
    clear hb2
    go_wp2_with fail
    go_ret
    exact ⟨rfl, HB2.out⟩

set_option maxRecDepth 100000 in
set_option maxHeartbeats 1000000 in
theorem isDamage0 (k r c t w g : Int) (W : World) (h : k < 1 ∨ 5 < k) : Calls Try.prog 23 #[(.agg #[.int .i64 k, .int .i64 r, .int .i64 c, .int .i64 t, .int .i64 w, .int .i64 g])] W fun e W' => e = .returned (.bool (dmOk k r c t w g)) ∧ Below W.heap.size W W' := by
  have e : dmOk k r c t w g = false := by rw [dmOk, fine0 h]; rfl
  rw [e]
  clear e
  have H := Lib.hid h
  clear h
  go_enter Try.func23, Try.ntmps23
  go_wp2_with fail
  refine (harm0 _ _ _ _ _ _ _ H.out).mono ?_
  rintro e w1 ⟨rfl, hb1⟩
  have HB1 := Lib.hid (bt1 hb1)
  clear hb1
  go_wp2_with fail
  go_ret
  exact ⟨rfl, HB1.out⟩

theorem isDamage_any (k r c t w g : Int) (W : World) : Calls Try.prog 23 #[(.agg #[.int .i64 k, .int .i64 r, .int .i64 c, .int .i64 t, .int .i64 w, .int .i64 g])] W fun e W' => e = .returned (.bool (dmOk k r c t w g)) ∧ Below W.heap.size W W' := by
  rcases five_or k with rfl | rfl | rfl | rfl | rfl | h
  · exact isDamage1 _ _ _ _ _ _
  · exact isDamage2 _ _ _ _ _ _
  · exact isDamage3 _ _ _ _ _ _
  · exact isDamage4 _ _ _ _ _ _
  · exact isDamage5 _ _ _ _ _ _
  · exact isDamage0 _ _ _ _ _ _ _ h
theorem isDamage_val {k r c t w g : Int} {b : Bool} {W : World} (h : dmOk k r c t w g = b) : Calls Try.prog 23 #[(.agg #[.int .i64 k, .int .i64 r, .int .i64 c, .int .i64 t, .int .i64 w, .int .i64 g])] W fun e W' => e = .returned (.bool b) ∧ Below W.heap.size W W' := h ▸ isDamage_any k r c t w g W

end Go.Proofs.Ythnjfdhijpfekaa
namespace Go.Proofs.Ythnjfdhijpfekaa
open Go.RowKit

theorem methodApply1 (r c t w g : Int) (n : Nat) (W : World) : (method (n + 1) 120 (.agg #[.int .i64 1, .int .i64 r, .int .i64 c, .int .i64 t, .int .i64 w, .int .i64 g]) "loop.example/g00879/impl.apply").run Try.prog W = .ok (104, .agg #[.int .i64 1, .int .i64 r, .int .i64 c, .int .i64 t, .int .i64 w, .int .i64 g]) W := by kernel_rfl
set_option maxRecDepth 100000 in
set_option maxHeartbeats 1000000 in
theorem damaged1 (r c t w g : Int) (a : Option Addr) (xs : List Int) (cp n m : Nat) (W : World) (hd : dmOk 1 r c t w g = true) (hx : IntsAt W a xs) (hl : xs.length = n * m) (hN2 : n * m ≤ 40000) (hn : n ≤ 400) (hm : m ≤ 400) (_hN1 : 1 ≤ n * m) (_hgr : Greys xs) :
    Calls Try.prog 53 #[.agg #[.int .i64 1, .int .i64 r, .int .i64 c, .int .i64 t, .int .i64 w, .int .i64 g], .agg #[.int .i64 (n : Int), .int .i64 (m : Int), .slice a xs.length cp]] W (RetRas W n m (dmgL 1 r c t w g n m xs)) := by
  have hmt := methodApply1 r c t w g
  have HX := Lib.hid hx
  have HL := Lib.hid hl
  have HD := Lib.hid hd
  clear hx hl hd
  go_enter Try.func53, Try.ntmps53
  go_wp2_with fail
  obtain ⟨q1, q2, q3⟩ := heap3 W (.cells #[.int .i64 1, .int .i64 r, .int .i64 c, .int .i64 t, .int .i64 w, .int .i64 g] 32 (0, 0)) (.cells #[.int .i64 (n : Int), .int .i64 (m : Int), .slice a xs.length cp] 28 (0, 0)) (.cells #[.int .i64 0, .int .i64 0, .slice none 0 0] 28 (0, 0))
  have HW := Lib.hid (ba3 W (.cells #[.int .i64 1, .int .i64 r, .int .i64 c, .int .i64 t, .int .i64 w, .int .i64 g] 32 (0, 0)) (.cells #[.int .i64 (n : Int), .int .i64 (m : Int), .slice a xs.length cp] 28 (0, 0)) (.cells #[.int .i64 0, .int .i64 0, .slice none 0 0] 28 (0, 0)))
  generalize ((W.alloc (.cells #[.int .i64 1, .int .i64 r, .int .i64 c, .int .i64 t, .int .i64 w, .int .i64 g] 32 (0, 0))).alloc (.cells #[.int .i64 (n : Int), .int .i64 (m : Int), .slice a xs.length cp] 28 (0, 0))).alloc (.cells #[.int .i64 0, .int .i64 0, .slice none 0 0] 28 (0, 0)) = w4 at *
  refine (harm1 _ _ _ _ _ _).mono ?_
  rintro e w5 ⟨rfl, hb5⟩
  have HB5 := Lib.hid (bt0 HW.out hb5 (Nat.le_refl _))
  replace q2 := blkK hb5 q2
  replace q3 := blkK hb5 q3
  have hc2 := (heap_cellR q2).1
  have HQ := Lib.hid q3
  clear q1 q2 q3 hb5
  go_wp2_with fail
  refine (blotApply_any r c t w g a xs cp n m _ HD.out (HX.out.below HB5.out) HL.out hN2 hn hm).mono ?_
  rintro e w1 ⟨a1, c1, rfl, ho, hb1⟩
  obtain ⟨hc4, hf4⟩ := heap_cellR (blkK hb1 HQ.out)
  have HB1 := Lib.hid hb1
  have HO := Lib.hid ho
  have hs4 := blkLt HQ.out
  have hs1 := hb1.size
  clear hb1 ho hc2
  go_wp2_with fail
  exact bodyPost_ret (v := .agg #[.int .i64 (n : Int), .int .i64 (m : Int), .slice a1 (dmgL 1 r c t w g n m xs).length c1]) (by simp [results, Try.results53, go_sem, hc4]) rfl (retRas_box HB5.out HO.out HB1.out (by omega) (by omega) _ _ _)

theorem methodApply2 (r c t w g : Int) (n : Nat) (W : World) : (method (n + 1) 121 (.agg #[.int .i64 2, .int .i64 r, .int .i64 c, .int .i64 t, .int .i64 w, .int .i64 g]) "loop.example/g00879/impl.apply").run Try.prog W = .ok (110, .agg #[.int .i64 2, .int .i64 r, .int .i64 c, .int .i64 t, .int .i64 w, .int .i64 g]) W := by kernel_rfl
set_option maxRecDepth 100000 in
set_option maxHeartbeats 1000000 in
theorem damaged2 (r c t w g : Int) (a : Option Addr) (xs : List Int) (cp n m : Nat) (W : World) (hd : dmOk 2 r c t w g = true) (hx : IntsAt W a xs) (hl : xs.length = n * m) (hN2 : n * m ≤ 40000) (hn : n ≤ 400) (hm : m ≤ 400) (_hN1 : 1 ≤ n * m) (_hgr : Greys xs) :
    Calls Try.prog 53 #[.agg #[.int .i64 2, .int .i64 r, .int .i64 c, .int .i64 t, .int .i64 w, .int .i64 g], .agg #[.int .i64 (n : Int), .int .i64 (m : Int), .slice a xs.length cp]] W (RetRas W n m (dmgL 2 r c t w g n m xs)) := by
  have hmt := methodApply2 r c t w g
  have HX := Lib.hid hx
  have HL := Lib.hid hl
  have HD := Lib.hid hd
  clear hx hl hd
  go_enter Try.func53, Try.ntmps53
  go_wp2_with fail
  obtain ⟨q1, q2, q3⟩ := heap3 W (.cells #[.int .i64 2, .int .i64 r, .int .i64 c, .int .i64 t, .int .i64 w, .int .i64 g] 32 (0, 0)) (.cells #[.int .i64 (n : Int), .int .i64 (m : Int), .slice a xs.length cp] 28 (0, 0)) (.cells #[.int .i64 0, .int .i64 0, .slice none 0 0] 28 (0, 0))
  have HW := Lib.hid (ba3 W (.cells #[.int .i64 2, .int .i64 r, .int .i64 c, .int .i64 t, .int .i64 w, .int .i64 g] 32 (0, 0)) (.cells #[.int .i64 (n : Int), .int .i64 (m : Int), .slice a xs.length cp] 28 (0, 0)) (.cells #[.int .i64 0, .int .i64 0, .slice none 0 0] 28 (0, 0)))
  generalize ((W.alloc (.cells #[.int .i64 2, .int .i64 r, .int .i64 c, .int .i64 t, .int .i64 w, .int .i64 g] 32 (0, 0))).alloc (.cells #[.int .i64 (n : Int), .int .i64 (m : Int), .slice a xs.length cp] 28 (0, 0))).alloc (.cells #[.int .i64 0, .int .i64 0, .slice none 0 0] 28 (0, 0)) = w4 at *
  refine (harm2 _ _ _ _ _ _).mono ?_
  rintro e w5 ⟨rfl, hb5⟩
  have HB5 := Lib.hid (bt0 HW.out hb5 (Nat.le_refl _))
  replace q2 := blkK hb5 q2
  replace q3 := blkK hb5 q3
  have hc2 := (heap_cellR q2).1
  have HQ := Lib.hid q3
  clear q1 q2 q3 hb5
  go_wp2_with fail
  refine (scratchApply_any r c t w g a xs cp n m _ HD.out (HX.out.below HB5.out) HL.out hN2 hn hm).mono ?_
  rintro e w1 ⟨a1, c1, rfl, ho, hb1⟩
  obtain ⟨hc4, hf4⟩ := heap_cellR (blkK hb1 HQ.out)
  have HB1 := Lib.hid hb1
  have HO := Lib.hid ho
  have hs4 := blkLt HQ.out
  have hs1 := hb1.size
  clear hb1 ho hc2
  go_wp2_with fail
  exact bodyPost_ret (v := .agg #[.int .i64 (n : Int), .int .i64 (m : Int), .slice a1 (dmgL 2 r c t w g n m xs).length c1]) (by simp [results, Try.results53, go_sem, hc4]) rfl (retRas_box HB5.out HO.out HB1.out (by omega) (by omega) _ _ _)

theorem methodApply3 (r c t w g : Int) (n : Nat) (W : World) : (method (n + 1) 122 (.agg #[.int .i64 3, .int .i64 r, .int .i64 c, .int .i64 t, .int .i64 w, .int .i64 g]) "loop.example/g00879/impl.apply").run Try.prog W = .ok (114, .agg #[.int .i64 3, .int .i64 r, .int .i64 c, .int .i64 t, .int .i64 w, .int .i64 g]) W := by kernel_rfl
set_option maxRecDepth 100000 in
set_option maxHeartbeats 1000000 in
theorem damaged3 (r c t w g : Int) (a : Option Addr) (xs : List Int) (cp n m : Nat) (W : World) (hd : dmOk 3 r c t w g = true) (hx : IntsAt W a xs) (hl : xs.length = n * m) (hN2 : n * m ≤ 40000) (hn : n ≤ 400) (hm : m ≤ 400) (_hN1 : 1 ≤ n * m) (_hgr : Greys xs) :
    Calls Try.prog 53 #[.agg #[.int .i64 3, .int .i64 r, .int .i64 c, .int .i64 t, .int .i64 w, .int .i64 g], .agg #[.int .i64 (n : Int), .int .i64 (m : Int), .slice a xs.length cp]] W (RetRas W n m (dmgL 3 r c t w g n m xs)) := by
  have hmt := methodApply3 r c t w g
  have HX := Lib.hid hx
  have HL := Lib.hid hl
  have HD := Lib.hid hd
  clear hx hl hd
  go_enter Try.func53, Try.ntmps53
  go_wp2_with fail
  obtain ⟨q1, q2, q3⟩ := heap3 W (.cells #[.int .i64 3, .int .i64 r, .int .i64 c, .int .i64 t, .int .i64 w, .int .i64 g] 32 (0, 0)) (.cells #[.int .i64 (n : Int), .int .i64 (m : Int), .slice a xs.length cp] 28 (0, 0)) (.cells #[.int .i64 0, .int .i64 0, .slice none 0 0] 28 (0, 0))
  have HW := Lib.hid (ba3 W (.cells #[.int .i64 3, .int .i64 r, .int .i64 c, .int .i64 t, .int .i64 w, .int .i64 g] 32 (0, 0)) (.cells #[.int .i64 (n : Int), .int .i64 (m : Int), .slice a xs.length cp] 28 (0, 0)) (.cells #[.int .i64 0, .int .i64 0, .slice none 0 0] 28 (0, 0)))
  generalize ((W.alloc (.cells #[.int .i64 3, .int .i64 r, .int .i64 c, .int .i64 t, .int .i64 w, .int .i64 g] 32 (0, 0))).alloc (.cells #[.int .i64 (n : Int), .int .i64 (m : Int), .slice a xs.length cp] 28 (0, 0))).alloc (.cells #[.int .i64 0, .int .i64 0, .slice none 0 0] 28 (0, 0)) = w4 at *
  refine (harm3 _ _ _ _ _ _).mono ?_
  rintro e w5 ⟨rfl, hb5⟩
  have HB5 := Lib.hid (bt0 HW.out hb5 (Nat.le_refl _))
  replace q2 := blkK hb5 q2
  replace q3 := blkK hb5 q3
  have hc2 := (heap_cellR q2).1
  have HQ := Lib.hid q3
  clear q1 q2 q3 hb5
  go_wp2_with fail
  refine (skewApply_any r c t w g a xs cp n m _ HD.out (HX.out.below HB5.out) HL.out hN2 hn hm).mono ?_
  rintro e w1 ⟨a1, c1, rfl, ho, hb1⟩
  obtain ⟨hc4, hf4⟩ := heap_cellR (blkK hb1 HQ.out)
  have HB1 := Lib.hid hb1
  have HO := Lib.hid ho
  have hs4 := blkLt HQ.out
  have hs1 := hb1.size
  clear hb1 ho hc2
  go_wp2_with fail
  exact bodyPost_ret (v := .agg #[.int .i64 (n : Int), .int .i64 (m : Int), .slice a1 (dmgL 3 r c t w g n m xs).length c1]) (by simp [results, Try.results53, go_sem, hc4]) rfl (retRas_box HB5.out HO.out HB1.out (by omega) (by omega) _ _ _)

theorem methodApply4 (r c t w g : Int) (n : Nat) (W : World) : (method (n + 1) 123 (.agg #[.int .i64 4, .int .i64 r, .int .i64 c, .int .i64 t, .int .i64 w, .int .i64 g]) "loop.example/g00879/impl.apply").run Try.prog W = .ok (120, .agg #[.int .i64 4, .int .i64 r, .int .i64 c, .int .i64 t, .int .i64 w, .int .i64 g]) W := by kernel_rfl
set_option maxRecDepth 100000 in
set_option maxHeartbeats 1000000 in
theorem damaged4 (r c t w g : Int) (a : Option Addr) (xs : List Int) (cp n m : Nat) (W : World) (hd : dmOk 4 r c t w g = true) (hx : IntsAt W a xs) (hl : xs.length = n * m) (hN2 : n * m ≤ 40000) (hn : n ≤ 400) (hm : m ≤ 400) (_hN1 : 1 ≤ n * m) (_hgr : Greys xs) :
    Calls Try.prog 53 #[.agg #[.int .i64 4, .int .i64 r, .int .i64 c, .int .i64 t, .int .i64 w, .int .i64 g], .agg #[.int .i64 (n : Int), .int .i64 (m : Int), .slice a xs.length cp]] W (RetRas W n m (dmgL 4 r c t w g n m xs)) := by
  have hmt := methodApply4 r c t w g
  have HX := Lib.hid hx
  have HL := Lib.hid hl
  have HD := Lib.hid hd
  clear hx hl hd
  go_enter Try.func53, Try.ntmps53
  go_wp2_with fail
  obtain ⟨q1, q2, q3⟩ := heap3 W (.cells #[.int .i64 4, .int .i64 r, .int .i64 c, .int .i64 t, .int .i64 w, .int .i64 g] 32 (0, 0)) (.cells #[.int .i64 (n : Int), .int .i64 (m : Int), .slice a xs.length cp] 28 (0, 0)) (.cells #[.int .i64 0, .int .i64 0, .slice none 0 0] 28 (0, 0))
  have HW := Lib.hid (ba3 W (.cells #[.int .i64 4, .int .i64 r, .int .i64 c, .int .i64 t, .int .i64 w, .int .i64 g] 32 (0, 0)) (.cells #[.int .i64 (n : Int), .int .i64 (m : Int), .slice a xs.length cp] 28 (0, 0)) (.cells #[.int .i64 0, .int .i64 0, .slice none 0 0] 28 (0, 0)))
  generalize ((W.alloc (.cells #[.int .i64 4, .int .i64 r, .int .i64 c, .int .i64 t, .int .i64 w, .int .i64 g] 32 (0, 0))).alloc (.cells #[.int .i64 (n : Int), .int .i64 (m : Int), .slice a xs.length cp] 28 (0, 0))).alloc (.cells #[.int .i64 0, .int .i64 0, .slice none 0 0] 28 (0, 0)) = w4 at *
  refine (harm4 _ _ _ _ _ _).mono ?_
  rintro e w5 ⟨rfl, hb5⟩
  have HB5 := Lib.hid (bt0 HW.out hb5 (Nat.le_refl _))
  replace q2 := blkK hb5 q2
  replace q3 := blkK hb5 q3
  have hc2 := (heap_cellR q2).1
  have HQ := Lib.hid q3
  clear q1 q2 q3 hb5
  go_wp2_with fail
  refine (noiseApply_any r c t w g a xs cp n m _ HD.out (HX.out.below HB5.out) HL.out hN2 hn hm _hN1).mono ?_
  rintro e w1 ⟨a1, c1, rfl, ho, hb1⟩
  obtain ⟨hc4, hf4⟩ := heap_cellR (blkK hb1 HQ.out)
  have HB1 := Lib.hid hb1
  have HO := Lib.hid ho
  have hs4 := blkLt HQ.out
  have hs1 := hb1.size
  clear hb1 ho hc2
  go_wp2_with fail
  exact bodyPost_ret (v := .agg #[.int .i64 (n : Int), .int .i64 (m : Int), .slice a1 (dmgL 4 r c t w g n m xs).length c1]) (by simp [results, Try.results53, go_sem, hc4]) rfl (retRas_box HB5.out HO.out HB1.out (by omega) (by omega) _ _ _)

theorem methodApply5 (r c t w g : Int) (n : Nat) (W : World) : (method (n + 1) 124 (.agg #[.int .i64 5, .int .i64 r, .int .i64 c, .int .i64 t, .int .i64 w, .int .i64 g]) "loop.example/g00879/impl.apply").run Try.prog W = .ok (124, .agg #[.int .i64 5, .int .i64 r, .int .i64 c, .int .i64 t, .int .i64 w, .int .i64 g]) W := by kernel_rfl
set_option maxRecDepth 100000 in
set_option maxHeartbeats 1000000 in
theorem damaged5 (r c t w g : Int) (a : Option Addr) (xs : List Int) (cp n m : Nat) (W : World) (hd : dmOk 5 r c t w g = true) (hx : IntsAt W a xs) (hl : xs.length = n * m) (hN2 : n * m ≤ 40000) (hn : n ≤ 400) (hm : m ≤ 400) (_hN1 : 1 ≤ n * m) (_hgr : Greys xs) :
    Calls Try.prog 53 #[.agg #[.int .i64 5, .int .i64 r, .int .i64 c, .int .i64 t, .int .i64 w, .int .i64 g], .agg #[.int .i64 (n : Int), .int .i64 (m : Int), .slice a xs.length cp]] W (RetRas W n m (dmgL 5 r c t w g n m xs)) := by
  have hmt := methodApply5 r c t w g
  have HX := Lib.hid hx
  have HL := Lib.hid hl
  have HD := Lib.hid hd
  clear hx hl hd
  go_enter Try.func53, Try.ntmps53
  go_wp2_with fail
  obtain ⟨q1, q2, q3⟩ := heap3 W (.cells #[.int .i64 5, .int .i64 r, .int .i64 c, .int .i64 t, .int .i64 w, .int .i64 g] 32 (0, 0)) (.cells #[.int .i64 (n : Int), .int .i64 (m : Int), .slice a xs.length cp] 28 (0, 0)) (.cells #[.int .i64 0, .int .i64 0, .slice none 0 0] 28 (0, 0))
  have HW := Lib.hid (ba3 W (.cells #[.int .i64 5, .int .i64 r, .int .i64 c, .int .i64 t, .int .i64 w, .int .i64 g] 32 (0, 0)) (.cells #[.int .i64 (n : Int), .int .i64 (m : Int), .slice a xs.length cp] 28 (0, 0)) (.cells #[.int .i64 0, .int .i64 0, .slice none 0 0] 28 (0, 0)))
  generalize ((W.alloc (.cells #[.int .i64 5, .int .i64 r, .int .i64 c, .int .i64 t, .int .i64 w, .int .i64 g] 32 (0, 0))).alloc (.cells #[.int .i64 (n : Int), .int .i64 (m : Int), .slice a xs.length cp] 28 (0, 0))).alloc (.cells #[.int .i64 0, .int .i64 0, .slice none 0 0] 28 (0, 0)) = w4 at *
  refine (harm5 _ _ _ _ _ _).mono ?_
  rintro e w5 ⟨rfl, hb5⟩
  have HB5 := Lib.hid (bt0 HW.out hb5 (Nat.le_refl _))
  replace q2 := blkK hb5 q2
  replace q3 := blkK hb5 q3
  have hc2 := (heap_cellR q2).1
  have HQ := Lib.hid q3
  clear q1 q2 q3 hb5
  go_wp2_with fail
  refine (fadeApply_any r c t w g a xs cp n m _ HD.out (HX.out.below HB5.out) HL.out hN2 hn hm _hgr).mono ?_
  rintro e w1 ⟨a1, c1, rfl, ho, hb1⟩
  obtain ⟨hc4, hf4⟩ := heap_cellR (blkK hb1 HQ.out)
  have HB1 := Lib.hid hb1
  have HO := Lib.hid ho
  have hs4 := blkLt HQ.out
  have hs1 := hb1.size
  clear hb1 ho hc2
  go_wp2_with fail
  exact bodyPost_ret (v := .agg #[.int .i64 (n : Int), .int .i64 (m : Int), .slice a1 (dmgL 5 r c t w g n m xs).length c1]) (by simp [results, Try.results53, go_sem, hc4]) rfl (retRas_box HB5.out HO.out HB1.out (by omega) (by omega) _ _ _)

theorem damaged_any (k r c t w g : Int) (a : Option Addr) (xs : List Int) (cp n m : Nat) (W : World) (hd : dmOk k r c t w g = true) (hx : IntsAt W a xs) (hl : xs.length = n * m) (hN2 : n * m ≤ 40000) (hn : n ≤ 400) (hm : m ≤ 400) (hN1 : 1 ≤ n * m) (hgr : Greys xs) :
    Calls Try.prog 53 #[.agg #[.int .i64 k, .int .i64 r, .int .i64 c, .int .i64 t, .int .i64 w, .int .i64 g], .agg #[.int .i64 (n : Int), .int .i64 (m : Int), .slice a xs.length cp]] W (RetRas W n m (dmgL k r c t w g n m xs)) := by
  rcases five_or k with rfl | rfl | rfl | rfl | rfl | h
  · exact damaged1 _ _ _ _ _ _ _ _ _ _ _ hd hx hl hN2 hn hm hN1 hgr
  · exact damaged2 _ _ _ _ _ _ _ _ _ _ _ hd hx hl hN2 hn hm hN1 hgr
  · exact damaged3 _ _ _ _ _ _ _ _ _ _ _ hd hx hl hN2 hn hm hN1 hgr
  · exact damaged4 _ _ _ _ _ _ _ _ _ _ _ hd hx hl hN2 hn hm hN1 hgr
  · exact damaged5 _ _ _ _ _ _ _ _ _ _ _ hd hx hl hN2 hn hm hN1 hgr
  · have := dm_bounds hd; omega

end Go.Proofs.Ythnjfdhijpfekaa
namespace Go.Proofs.Ythnjfdhijpfekaa
open Go.RowKit

/-- has a kind of damage the field i -/
def flB (k : Int) (i : Nat) : Bool :=
  if k = 1 then decide (i ≠ 3) else if k = 2 then true else if k = 3 then decide (2 ≤ i) else if k = 4 then decide (i = 0 ∨ i = 2 ∨ i = 4) else decide (i = 2 ∨ i = 4)
/-- the field i -/
def lsI (r c t w g : Int) : Nat → Int
  | 0 => r
  | 1 => c
  | 2 => t
  | 3 => w
  | _ => g

theorem row5 {w : World} {a b c d e : Value} {t : TypeId} {f : Nat → Value} (h0 : a = f 0) (h1 : b = f 1) (h2 : c = f 2) (h3 : d = f 3) (h4 : e = f 4) : RowF 5 f (.slice (some ⟨w.heap.size, 0, none⟩) 5 5) (w.alloc (.cells #[a, b, c, d, e] t (0, 0))) := by
  subst h0 h1 h2 h3 h4
  refine ⟨w.heap.size, rfl, fun i hi => ?_⟩
  rw [boxF0]
  match i, hi with
  | 0, _ => rfl
  | 1, _ => rfl
  | 2, _ => rfl
  | 3, _ => rfl
  | 4, _ => rfl

/-- a slice of n cells is handed back -/
def RetRow (w : World) (n : Nat) (f : Nat → Value) (e : Ending) (w' : World) : Prop := ∃ v, e = .returned v ∧ RowF n f v w' ∧ Below w.heap.size w w'

set_option maxHeartbeats 400000 in
theorem l27Fields_any (k : Int) (w : World) : Calls Try.prog 75 #[.int .i64 k] w (RetRow w 5 fun i => .bool (flB k i)) := by
  by_cases h1 : k = 1
  · subst h1
    go_enter Try.func75, Try.ntmps75
    go_wp2_with fail
    go_ret
    exact ⟨_, rfl, row5 rfl rfl rfl rfl rfl, ba1 _ _⟩
  by_cases h2 : k = 2
  · subst h2
    clear h1
    go_enter Try.func75, Try.ntmps75
    go_wp2_with fail
    go_ret
    exact ⟨_, rfl, row5 rfl rfl rfl rfl rfl, ba1 _ _⟩
  by_cases h3 : k = 3
  · subst h3
    clear h1 h2
    go_enter Try.func75, Try.ntmps75
    go_wp2_with fail
    go_ret
    exact ⟨_, rfl, row5 rfl rfl rfl rfl rfl, ba1 _ _⟩
  by_cases h4 : k = 4
  · subst h4
    clear h1 h2 h3
    go_enter Try.func75, Try.ntmps75
    go_wp2_with fail
    go_ret
    exact ⟨_, rfl, row5 rfl rfl rfl rfl rfl, ba1 _ _⟩
  have HF := Lib.hid (show ∀ i, flB k i = decide (i = 2 ∨ i = 4) from fun i => by rw [flB, if_neg h1, if_neg h2, if_neg h3, if_neg h4])
  have e1 : (k == 1) = false := by simp; omega
  have e2 : (k == 2) = false := by simp; omega
  have e3 : (k == 3) = false := by simp; omega
  have e4 : (k == 4) = false := by simp; omega
  clear h1 h2 h3 h4
  go_enter Try.func75, Try.ntmps75
  go_wp2_with fail
  go_ret
  refine ⟨_, rfl, row5 ?_ ?_ ?_ ?_ ?_, ba1 _ _⟩
  all_goals (rw [HF.out]; rfl)

set_option maxHeartbeats 400000 in
theorem l27List_any (k r c t w g : Int) (W : World) : Calls Try.prog 76 #[.agg #[.int .i64 k, .int .i64 r, .int .i64 c, .int .i64 t, .int .i64 w, .int .i64 g]] W (RetRow W 5 fun i => .int .i64 (lsI r c t w g i)) := by
  go_enter Try.func76, Try.ntmps76
  go_wp2_with fail
  go_ret
  have h := row5 (w := W.alloc (.cells #[.int .i64 k, .int .i64 r, .int .i64 c, .int .i64 t, .int .i64 w, .int .i64 g] 32 (0, 0))) (t := 2) (f := fun i => .int .i64 (lsI r c t w g i)) (a := .int .i64 r) (b := .int .i64 c) (c := .int .i64 t) (d := .int .i64 w) (e := .int .i64 g) rfl rfl rfl rfl rfl
  refine ⟨_, rfl, ?_, ba2 _ _ _⟩
  simpa using h

/-- is the field i as it may be -/
def okAt (k : Int) (i : Nat) (z : Int) : Bool := if flB k i = true then inB z (-400) 400 && (!decide (z < 0) || (decide (i = 3) && k == 3)) else (z == 0)
/-- what is asked of a kind besides -/
def lastB (k t w : Int) : Bool := if k = 2 then decide (1 ≤ t) && decide (1 ≤ w) else if k = 3 then decide (1 ≤ t) else if k = 5 then decide (t ≤ 256) else true
theorem dm_spec {k r c t w g : Int} (hk : 1 ≤ k ∧ k ≤ 5) (hg : inB g 0 255 = true) (h : ∀ i, i < 4 → okAt k i (lsI r c t w g i) = true) : dmOk k r c t w g = lastB k t w := by
  have h0 := h 0 (by omega)
  have h1 := h 1 (by omega)
  have h2 := h 2 (by omega)
  have h3 := h 3 (by omega)
  clear h
  unfold dmOk
  rw [hg, Bool.and_true]
  have : k = 1 ∨ k = 2 ∨ k = 3 ∨ k = 4 ∨ k = 5 := by omega
  rcases this with rfl | rfl | rfl | rfl | rfl
  all_goals (simp [okAt, flB, lsI, inB] at h0 h1 h2 h3)
  · rw [fine1, Bool.eq_iff_iff]; simp [lastB, inB]; omega
  · rw [fine2, Bool.eq_iff_iff]; simp [lastB, inB]; omega
  · rw [fine3, Bool.eq_iff_iff]; simp [lastB, inB]; omega
  · rw [fine4, Bool.eq_iff_iff]; simp [lastB, inB]; omega
  · rw [fine5, Bool.eq_iff_iff]; simp [lastB, inB]; omega
theorem dm_spec_no {k r c t w g : Int} {i : Nat} (hk : 1 ≤ k ∧ k ≤ 5) (hi : i < 4) (h : okAt k i (lsI r c t w g i) = false) : dmOk k r c t w g = false := by
  have : k = 1 ∨ k = 2 ∨ k = 3 ∨ k = 4 ∨ k = 5 := by omega
  have hi' : i = 0 ∨ i = 1 ∨ i = 2 ∨ i = 3 := by omega
  unfold dmOk
  rcases this with rfl | rfl | rfl | rfl | rfl
  all_goals
    rcases hi' with rfl | rfl | rfl | rfl
    all_goals
      simp [okAt, flB, lsI, inB] at h
      first
        | (rw [fine1, Bool.eq_false_iff]; simp [inB]; omega)
        | (rw [fine2, Bool.eq_false_iff]; simp [inB]; omega)
        | (rw [fine3, Bool.eq_false_iff]; simp [inB]; omega)
        | (rw [fine4, Bool.eq_false_iff]; simp [inB]; omega)
        | (rw [fine5, Bool.eq_false_iff]; simp [inB]; omega)

end Go.Proofs.Ythnjfdhijpfekaa
