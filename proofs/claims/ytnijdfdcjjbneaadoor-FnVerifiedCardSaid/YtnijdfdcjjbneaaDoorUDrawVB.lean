import Derived.Test.YtnijdfdcjjbneaaDoorUDmg
import Derived.Test.YtnijdfdcjjbneaaDoorUVerI
import Derived.Test.YtnijdfdcjjbneaaDoorUStrS
import Derived.Test.YtnijdfdcjjbneaaDoorUDrawSO
import Derived.Test.YtnijdfdcjjbneaaDoorUBase3
import Derived.Deep.RegionWith
namespace Go.Proofs.YtnijdfdcjjbneaaDoor
open Go.RowKit

theorem grown_below {w w' : World} (hb : Below w.heap.size w w') (row : Option Nat) : w.grownBy w' row := ⟨hb.os, hb.tape, hb.output, hb.size, fun i hi _ => hb.block i hi⟩

set_option maxRecDepth 100000 in
set_option maxHeartbeats 1000000 in
theorem l31DrawSerial_any (b : Nat) (p : ByteArray) (x1 x2 x3 x4 : Int) (w : World) (hs : Src w b) (hp : p.size ≤ maxLen) :
    Calls Tryd.prog 46 #[.pointer (some ⟨b, 0, none⟩), .agg #[.string p, .int .i64 x1, .int .i64 x2, .int .i64 x3, .int .i64 x4]] w (RetDmg w b 401) := by
  have HS := Lib.hid hs
  have HP := Lib.hid hp
  have hbl : b < w.heap.size := hs.lt
  clear hs hp
  rcases Bool.eq_false_or_eq_true (isBatchB p x1 x2 x3 x4) with h1 | h1
  · have H1 := Lib.hid h1
    obtain ⟨_, _, _, b4, b5, _, _, _, _, _, _⟩ := batch_parts h1
    clear h1
    go_enter Tryd.func46, Tryd.ntmps46
    go_wp2_with fail
    refine (specIsBatch_val H1.out HP.out).mono ?_
    rintro e w1 ⟨rfl, hb1⟩
    have hA1 := Lib.hid (hb1.block w.heap.size (by simp) |>.trans Array.getElem?_push_size)
    have q1 : w.heap.size < w1.heap.size := by have := hb1.size; simp at this; omega
    have HG1 := Lib.hid (grown_below (bt1 hb1) (some b))
    have HS1 := Lib.hid (HS.out.below (bt1 hb1))
    clear hb1
    go_wp2_with fail
    refine wp_region_rs (Keep := KeepB b) [9, 10, 11, 12, 13, 14] (fun us => _)
      [spEq b (.agg #[.string p, .int .i64 x1, .int .i64 x2, .int .i64 x3, .int .i64 x4]), spEq b (.pointer (some ⟨b, 0, none⟩)), spEq b (.pointer (some ⟨w.heap.size, 3, none⟩)), spEq b (.int .i64 x3), spV b (NumB 0 (x3 - 1)), spV b (StrB 400)]
      (StB b w1) (by kernel_rfl) (by kernel_rfl) (Nat.le_of_ble_eq_true rfl) (fun us => by simp [over, List.mapIdx_cons]; exact rfl) ?_ (fun w => World.grownBy.refl _ _) ?_ ?_
    · exact ⟨HS1.out.kept (row := none) (w' := World.drew w1) (grownBy_drewN w1 1 none) (by simp), grownBy_drewN w1 1 _⟩
    · refine ⟨?_, ?_, ?_, ?_, ?_, ?_, trivial⟩
      all_goals (intro us wr hst hd; rw [if_pos (by kernel_rfl)]; dsimp only)
      · clear hd
        have hc := heap_cell ((hst.2.block w.heap.size q1 (fun e => by have := Option.some.inj e; omega)).trans hA1.out)
        go_simp
        exact rs_same hst rfl
      · clear hd
        go_simp
        exact rs_same hst rfl
      · clear hd
        go_simp
        exact rs_same hst rfl
      · have d11 : us 11 = .pointer (some ⟨w.heap.size, 3, none⟩) := hd ⟨2, .data⟩ (by simp) rfl
        clear hd
        have hc := heap_cell ((hst.2.block w.heap.size q1 (fun e => by have := Option.some.inj e; omega)).trans hA1.out)
        go_simp
        exact rs_same hst rfl
      · have d10 : us 10 = .pointer (some ⟨b, 0, none⟩) := hd ⟨1, .data⟩ (by simp) rfl
        have d12 : us 12 = .int .i64 x3 := hd ⟨3, .data⟩ (by simp) rfl
        clear hd
        go_simp
        exact (l01Next_any b x3 wr hst.1 (by omega) (by omega)).mono fun e w' ⟨r, he, r0, r1, hs, hg⟩ => ⟨_, he, stB_trans hst hs hg, hg, r, rfl, r0, by omega⟩
      · have d9 : us 9 = .agg #[.string p, .int .i64 x1, .int .i64 x2, .int .i64 x3, .int .i64 x4] := hd ⟨0, .data⟩ (by simp) rfl
        have d13 : NumB 0 (x3 - 1) (us 13) := hd ⟨4, .data⟩ (by simp) rfl
        clear hd
        obtain ⟨r, e13, l13, u13⟩ := d13
        go_simp
        exact (l31Serial_val rfl H1.out l13 (by omega)).mono fun e w' ⟨he, hb⟩ => ⟨_, he, stB_trans hst (hst.1.below hb) (grown_below hb _), grown_below hb _, _, rfl, ser_len H1.out l13 (by omega)⟩
    · intro us w2 hst hd
      have d14 : StrB 400 (us 14) := hd 5 (by simp)
      clear hd
      obtain ⟨t, e14, ht⟩ := d14
      have HS2 := Lib.hid hst.1
      have HG2 := Lib.hid (grownBy_trans HG1.out hst.2)
      clear hst
      simp only [List.drop, List.length]
      rw [e14]
      go_wp2_with fail
      refine (l01Next_any b 6 _ HS2.out (by decide) (by decide)).mono ?_
      rintro e w3 ⟨r, rfl, r0, r1, hs3, hg3⟩
      have HS3 := Lib.hid hs3
      have HG3 := Lib.hid (grownBy_trans HG2.out hg3)
      clear hs3 hg3 r1
      by_cases hr : r = 0
      · subst hr
        go_wp2_with fail
        refine (l01Damage_any b t 400 _ HS3.out ht (by decide)).mono ?_
        rintro e w4 ⟨t', rfl, ht', hs4, hg4⟩
        have HR := Lib.hid (And.intro hs4 (grownBy_trans HG3.out hg4))
        clear hs4 hg4
        go_wp2_with fail
        go_ret
        exact ⟨_, rfl, ht', HR.out.1, HR.out.2⟩
      · have hr2 : (r == 0) = false := by simp; omega
        clear hr
        go_wp2_with fail
        go_ret
        exact ⟨_, rfl, by omega, HS3.out, HG3.out⟩
  · have H1 := Lib.hid h1
    clear h1
    go_enter Tryd.func46, Tryd.ntmps46
    go_wp2_with fail
    refine (specIsBatch_val H1.out HP.out).mono ?_
    rintro e w1 ⟨rfl, hb1⟩
    have HG1 := Lib.hid (grown_below (bt1 hb1) (some b))
    have HS1 := Lib.hid (HS.out.below (bt1 hb1))
    clear hb1
    go_wp2_with fail
    go_ret
    exact ⟨_, rfl, by decide, HS1.out, HG1.out⟩

theorem make_strs (n : Nat) (hn : n ≤ 1099511627776) (w : World) :
    (Instr.makeSlice 39 (.int .i64 (n : Int)) (.int .i64 (n : Int))).run Tryd.prog w = .ok (.slice (some ⟨w.heap.size, 0, none⟩) n n) (w.alloc (.cells (madeCells #[.string ⟨#[]⟩] n) 9)) := by
  obtain ⟨i0, hi, hz0, hz1, hz2⟩ := info_parts infoS
  have := run_make (P := Tryd.prog) w 39 9 i0 (.string ⟨#[]⟩) Tryd.underlying39 hi hz0 .i64 .i64 n n (by omega) (Int.le_refl _) (by rw [hz2]; omega) (by omega)
  rw [hz1] at this
  simpa [Value.cells] using this
theorem ownS_made (w : World) (n : Nat) (hn : n ≤ 1099511627776) : OwnS (w.alloc (.cells (madeCells #[.string ⟨#[]⟩] n) 9)) w.heap.size (.slice (some ⟨w.heap.size, 0, none⟩) n n) (List.replicate n ⟨#[]⟩) :=
  OwnS.of_made (World.ownsRow_lit (base := w.heap.size) (size := 1) w (madeCells #[.string ⟨#[]⟩] n) n (Nat.le_refl _) (by unfold maxLen; omega) (by rw [size_madeCells]; omega))
theorem ownS_empty (w : World) : OwnS (w.alloc (.cells #[] 9 (0, 0))) w.heap.size (.slice (some ⟨w.heap.size, 0, none⟩) 0 0) [] :=
  World.ownsRow_lit (base := w.heap.size) (size := 1) w #[] 0 (Nat.le_refl _) (by unfold maxLen; omega) rfl
theorem ownS_snoc {w : World} {B : Nat} {v : Value} {M : List ByteArray} {z : ByteArray} (h : w.ownsRow B 9 1 v (M.length + 1) (M.map Value.string ++ [.string z])) : OwnS w B v (M ++ [z]) := by
  unfold OwnS
  rw [List.length_append, List.map_append]
  exact h
theorem OwnS.other {w w' : World} {base : Nat} {v : Value} {zs : List ByteArray} {row : Option Nat} (h : OwnS w base v zs) (hg : w.grownBy w' row) (hne : ∀ k, v.ownBlock = some k → row ≠ some k) : OwnS w' base v zs :=
  h.kept hg (by
    cases hv : v.ownBlock with
    | none => exact Or.inl rfl
    | some k => exact Or.inr (fun e => hne k hv e.symm))
theorem strs_oneCell (z : ByteArray) : ∀ u ∈ ([.string z] : List Value), u.oneCell' = true := by
  intro u hu
  rw [List.mem_singleton] at hu
  subst hu
  rfl

/-- a drawn batch and drawn texts -/
def RetDV (w : World) (e : Ending) (w' : World) : Prop :=
  ∃ (p : ByteArray) (x1 x2 x3 x4 : Int) (a : Option Addr) (ms : List ByteArray) (c : Nat), e = .returned (.tuple #[.agg #[.string p, .int .i64 x1, .int .i64 x2, .int .i64 x3, .int .i64 x4], .slice a ms.length c]) ∧ p.size ≤ 13 ∧ StrsAt w' a ms ∧ ms.length ≤ 401 ∧ (∀ s ∈ ms, s.size ≤ 401) ∧ Below w.heap.size w w'

/-- the blocks from B on stay -/
def KeepU (B : Nat) (w w' : World) : Prop := w.heap.size ≤ w'.heap.size ∧ ∀ k, B ≤ k → k < w.heap.size → w'.heap[k]? = w.heap[k]?
theorem keepU_refl (B : Nat) (w : World) : KeepU B w w := ⟨Nat.le_refl _, fun _ _ _ => rfl⟩
def spU (B : Nat) (p : Value → Prop) : Sp (KeepU B) := ⟨fun v _ => p v, fun _ _ _ _ h => h⟩
theorem OwnS.keepU {w w' : World} {B : Nat} {v : Value} {zs : List ByteArray} (h : OwnS w B v zs) (hk : KeepU B w w') : OwnS w' B v zs := by
  refine ⟨h.1, ?_⟩
  rcases h.2 with h2 | ⟨g, cap, cur, h1, hb, hg, r⟩
  · exact Or.inl h2
  · exact Or.inr ⟨g, cap, cur, h1, hb, (hk.2 g hb (Array.getElem?_eq_some_iff.1 hg).1).trans hg, r⟩
/-- made texts, all empty -/
def MadeS (B : Nat) (v : Value) (W : World) : Prop := ∃ g m, v = .slice (some ⟨g, 0, none⟩) m m ∧ m ≤ 401 ∧ OwnS W B (.slice (some ⟨g, 0, none⟩) m m) (List.replicate m ⟨#[]⟩)
def spStrs (B : Nat) : Sp (KeepU B) := ⟨MadeS B, fun _ _ _ hk ⟨g, m, hv, hm, ho⟩ => ⟨g, m, hv, hm, ho.keepU hk⟩⟩
theorem su_same {B b g : Nat} {w W : World} {cs : Array Value} {s : Sp (KeepU B)} {v : Value} (h : StSO b g w cs W) (hs : s.holds v W) : RsR (StSO b g w cs) s W v W := ⟨h, keepU_refl _ _, hs⟩
theorem su_next {B b g : Nat} {w W : World} {cs : Array Value} {n lo hi : Int} (h : StSO b g w cs W) (hbB : b < B) (hbg : w.heap.size < b) (hgb : g ≠ b) (hn : 1 ≤ n) (hn2 : n ≤ 1152921504606846976) (h0 : lo ≤ 0) (h1 : n - 1 ≤ hi) :
    Calls Tryd.prog 32 #[.pointer (some ⟨b, 0, none⟩), .int .i64 n] W fun e W' => ∃ v, e = .returned v ∧ RsR (StSO b g w cs) (spU B (NumB lo hi)) W v W' :=
  (l01Next_any b n W h.1 (by omega) hn2).mono fun e W' ⟨r, he, r0, r1, hs, hg⟩ => ⟨_, he, ⟨hs, (hg.block g (Array.getElem?_eq_some_iff.1 h.2.1).1 (fun e => hgb (Option.some.inj e))).trans h.2.1, by
    obtain ⟨p, x1, x2, x3, x4, hb, hp⟩ := h.2.2.1
    exact ⟨p, x1, x2, x3, x4, (hg.block _ (Array.getElem?_eq_some_iff.1 hb).1 (fun e => by have := Option.some.inj e; omega)).trans hb, hp⟩, h.2.2.2.trans (below_of_grownBy hg h.2.2.2.size (fun k e => by have := Option.some.inj e; omega))⟩, ⟨hg.size, fun k hk hl => hg.block k hl (fun e => by have := Option.some.inj e; omega)⟩, r, rfl, by omega, by omega⟩
theorem su_new {B b g : Nat} {w W : World} {cs : Array Value} {s : Sp (KeepU B)} {v : Value} {o : Obj} (h : StSO b g w cs W) (hs : s.holds v (W.alloc o)) : RsR (StSO b g w cs) s W v (W.alloc o) := by
  refine ⟨⟨h.1.below (ba1 W o), ((ba1 W o).block g (Array.getElem?_eq_some_iff.1 h.2.1).1).trans h.2.1, ?_, bt0 h.2.2.2 (ba1 W o) (Nat.le_refl _)⟩, ⟨(ba1 W o).size, fun k _ hl => (ba1 W o).block k hl⟩, hs⟩
  obtain ⟨p, x1, x2, x3, x4, hb, hp⟩ := h.2.2.1
  exact ⟨p, x1, x2, x3, x4, ((ba1 W o).block _ (Array.getElem?_eq_some_iff.1 hb).1).trans hb, hp⟩
theorem su_fit {St : World → Prop} {B n : Nat} {s : Sp (KeepU B)} {w w' : World} {v : Value} (hn : n ≤ w.heap.size) (h : RsR St s w v w') : RsR (fun W => St W ∧ n ≤ W.heap.size) s w v w' :=
  ⟨⟨h.1, Nat.le_trans hn h.2.1.1⟩, h.2⟩
theorem su_fitC {P : Program} {f : FuncId} {args : Array Value} {St : World → Prop} {B n : Nat} {s : Sp (KeepU B)} {w : World} (hn : n ≤ w.heap.size) (h : Calls P f args w fun e w' => ∃ v, e = .returned v ∧ RsR St s w v w') :
    Calls P f args w fun e w' => ∃ v, e = .returned v ∧ RsR (fun W => St W ∧ n ≤ W.heap.size) s w v w' :=
  h.mono fun _ _ ⟨v, he, hr⟩ => ⟨v, he, su_fit hn hr⟩
/-- while texts are drawn -/
def DrawnS (w0 w : World) (b k : Nat) (v : Value) : Prop := ∃ ms : List ByteArray, ms.length + k ≤ 8 ∧ (∀ s ∈ ms, s.size ≤ 401) ∧ OwnS w w0.heap.size v ms ∧ StB b w0 w
theorem strs_other {w : World} {a : Option Addr} {zs : List ByteArray} {g i : Nat} {v : Value} (h : StrsAt w a zs) (hne : ∀ ad, a = some ad → ad.block ≠ g) : StrsAt (w.setCell ⟨g, i, none⟩ v) a zs := by
  intro j hj
  obtain ⟨b, o, ha, hc⟩ := h j hj
  refine ⟨b, o, ha, ?_⟩
  rw [World.cell?_of_block (w := w) (a := ⟨b, o + j, none⟩) (heap_setCell_other w ⟨g, i, none⟩ b v (fun e => hne _ ha (by simpa using e)))]
  exact hc

set_option maxRecDepth 100000 in
set_option maxHeartbeats 2000000 in
theorem drawVerifyBatch_any (a : Option Addr) (n c : Nat) (w : World) (hx : BytesAt w w.heap.size a n) (hn : n ≤ 4096) :
    Calls Tryd.prog 27 #[.slice a n c] w (RetDV w) := by
  have HX := Lib.hid hx
  clear hx
  obtain ⟨i0, hi, y0, y1, y2⟩ := info_parts infoS
  go_enter Tryd.func27, Tryd.ntmps27
  go_wp2_with fail
  have hx1 : BytesAt (w.alloc (.cells #[.string ⟨#[]⟩, .int .i64 0, .int .i64 0, .int .i64 0, .int .i64 0] 25 (0, 0))) (w.alloc (.cells #[.string ⟨#[]⟩, .int .i64 0, .int .i64 0, .int .i64 0, .int .i64 0] 25 (0, 0))).heap.size a n := by
    have h := HX.out.kept (w' := w.alloc (.cells #[.string ⟨#[]⟩, .int .i64 0, .int .i64 0, .int .i64 0, .int .i64 0] 25 (0, 0))) (fun k hk => (ba1 w _).block k hk)
    intro i hi
    obtain ⟨b, o, z, h1, h2, h3⟩ := h i hi
    exact ⟨b, o, z, h1, by simp; omega, h3⟩
  refine (l01From_any a n c _ hx1 hn).mono ?_
  rintro e w1 ⟨b, rfl, hb, hs1, hb1⟩
  have hB1 := bt1 hb1
  have hz1 : w.heap.size < w1.heap.size := by have := hb1.size; simp at this; omega
  have hwb : w.heap.size < b := by simp at hb; omega
  have hA1 : w1.heap[w.heap.size]? = some (.cells #[.string ⟨#[]⟩, .int .i64 0, .int .i64 0, .int .i64 0, .int .i64 0] 25 (0, 0)) := (hb1.block _ (by simp)).trans Array.getElem?_push_size
  have HS1 := Lib.hid hs1
  have HB1 := Lib.hid hB1
  have HA1 := Lib.hid hA1
  clear hx1 hb hs1 hb1 hB1 hA1
  go_wp2_with fail
  refine (l31Draw_any b w1 HS1.out).mono ?_
  rintro e w2 ⟨p, x1, x2, x3, x4, rfl, hp, _, _, _, _, hs2, hg2⟩
  have HA2 := Lib.hid ((hg2.block w.heap.size (by omega) (fun e => by have := Option.some.inj e; omega)).trans HA1.out)
  have HB2 := Lib.hid (HB1.out.trans (below_of_grownBy hg2 HB1.out.size (fun k e => by have := Option.some.inj e; omega)))
  have hz2 : w.heap.size < w2.heap.size := by have := hg2.size; omega
  have HS2 := Lib.hid hs2
  have hb2 : b < w2.heap.size := hs2.lt
  have HP := Lib.hid hp
  clear hs2 hg2 hp
  go_wp2_with fail
  have HB3 := Lib.hid (bt0 HB2.out (ba1 w2 (.cells #[.string p, .int .i64 x1, .int .i64 x2, .int .i64 x3, .int .i64 x4] 25 (0, 0))) (Nat.le_refl _))
  have HS3 := Lib.hid (HS2.out.below (ba1 w2 (.cells #[.string p, .int .i64 x1, .int .i64 x2, .int .i64 x3, .int .i64 x4] 25 (0, 0))))
  have HA3 := Lib.hid (((ba1 w2 (.cells #[.string p, .int .i64 x1, .int .i64 x2, .int .i64 x3, .int .i64 x4] 25 (0, 0))).block w.heap.size hz2).trans HA2.out)
  have hz3 : (w2.alloc (.cells #[.string p, .int .i64 x1, .int .i64 x2, .int .i64 x3, .int .i64 x4] 25 (0, 0))).heap.size = w2.heap.size + 1 := by simp
  have HC3 : Hid ((w2.alloc (.cells #[.string p, .int .i64 x1, .int .i64 x2, .int .i64 x3, .int .i64 x4] 25 (0, 0))).heap[w2.heap.size]? = some (.cells #[.string p, .int .i64 x1, .int .i64 x2, .int .i64 x3, .int .i64 x4] 25 (0, 0))) := Lib.hid Array.getElem?_push_size
  clear HB2 HS2 HA2
  generalize w2.alloc (.cells #[.string p, .int .i64 x1, .int .i64 x2, .int .i64 x3, .int .i64 x4] 25 (0, 0)) = w3 at *
  have HZ3 := Lib.hid hz3
  have hlt3 : w2.heap.size < w3.heap.size := by omega
  clear hz3
  refine (l01Next_any b 9 _ (HS3.out.kept (World.grownBy_alloc _ _ none) (by simp)) (by decide) (by decide)).mono ?_
  rintro e w4 ⟨r, rfl, r0, r1, hs4, hg4⟩
  obtain ⟨k, rfl⟩ := Int.eq_ofNat_of_zero_le r0
  have hk8 : k ≤ 8 := by omega
  have hg34 := grownBy_trans (World.grownBy_alloc w3 (.cells #[] 9 (0, 0)) (some b)) hg4
  have H0 : Hid (DrawnS w3 w4 b k (.slice (some ⟨w3.heap.size, 0, none⟩) 0 0)) := Lib.hid ⟨[], by simpa using hk8, fun s hs => (by cases hs), (ownS_empty w3).other hg4 (fun k hk e => by
    have h1 : w3.heap.size = k := Option.some.inj hk
    have h2 := Option.some.inj e
    omega), hs4, hg34⟩
  clear hs4 hg4 hg34 r0 r1
  go_wp2_with fail
  go_loopw [6, 7] (fun v i wr => ∃ k : Nat, i = .int .i64 k ∧ k ≤ 8 ∧ DrawnS w3 wr b k v) (fun _ i _ => (intOf i).toNat)
  case atStart => exact ⟨k, rfl, hk8, by have h := H0.out; rw [HZ3.out] at h; exact h⟩
  case round =>
    clear H0 hk8
    obtain ⟨k, rfl, hk8, ms, hml, hms, hown, hst⟩ := hrel
    have HO := Lib.hid hown
    have HST := Lib.hid hst
    have HMS := Lib.hid hms
    have hcb := heap_cell ((hst.2.block w2.heap.size hlt3 (fun e => by have := Option.some.inj e; omega)).trans HC3.out)
    have hwr := hst.2.size
    clear hown hst hms
    by_cases hk : (0 : Int) < k
    · go_wp2_with fail
      refine (l31DrawSerial_any b p x1 x2 x3 x4 _ HST.out.1 (by have := HP.out; unfold maxLen; omega)).mono ?_
      rintro e w5 ⟨t, rfl, ht, hs5, hg5⟩
      have HST5 := Lib.hid (stB_trans HST.out hs5 hg5)
      have HO5 := Lib.hid (HO.out.other hg5 (fun k hk e => by
        have h1 := HO.out.lo k hk
        have h2 := Option.some.inj e
        omega))
      have hw5 := hg5.size
      have HT := Lib.hid ht
      clear hs5 hg5 ht hcb
      go_wp2_with (at_builtin; refine wpList_append_own _ rfl _ _ 39 rfl w3.heap.size 9 i0 (.string ⟨#[]⟩) 1 16 Tryd.underlying39 hi y0 y1 y2 rfl (by decide) _ _ _ rfl (World.ownsRow.alloc HO5.out _) ⟨w5.heap.size, 0, none⟩ 1 1 [.string t] rfl rfl (cell_one_new _ _ _) (strs_oneCell t) (by unfold maxLen; omega) (by omega) (by simp; omega) ?_; intro v' w6 hown6 hg6 _)
      have hst6 := stB_alloc HST5.out (.cells #[.string t] 9 (0, 0))
      have hlo : ∀ j, Value.ownBlock u6 = some j → w3.heap.size ≤ j := HO5.out.lo
      have HD6 : DrawnS w3 w6 b (k - 1) v' := ⟨ms ++ [t], by rw [List.length_append, List.length_singleton]; omega, fun s hs => by
        rcases List.mem_append.1 hs with h | h
        · exact HMS.out s h
        · rw [List.mem_singleton] at h; rw [h]; exact HT.out, ownS_snoc hown6, hst6.1.kept hg6 (fun j e => by have := hlo j e; omega), hst6.2.andThen hg6 (fun j e => Or.inl (hlo j e))⟩
      exact ⟨⟨k - 1, by congr 1; omega, by omega, HD6⟩, by simp [intOf]; omega⟩
    · have hk0 : k = 0 := by omega
      subst hk0
      go_wp2_with fail
      refine (l01Next_any b 40 _ HST.out.1 (by decide) (by decide)).mono ?_
      rintro e w5 ⟨q, rfl, q0, q1, hs5, hg5⟩
      have HST5 := Lib.hid (stB_trans HST.out hs5 hg5)
      have HO5 := Lib.hid (HO.out.other hg5 (fun k hk e => by
        have h1 := HO.out.lo k hk
        have h2 := Option.some.inj e
        omega))
      have hw5 := hg5.size
      clear hs5 hg5 q1 hcb
      have hCc := heap_cell ((HST5.out.2.block w2.heap.size hlt3 (fun e => by have := Option.some.inj e; omega)).trans HC3.out)
      have hAh := (HST5.out.2.block w.heap.size (by omega) (fun e => by have := Option.some.inj e; omega)).trans HA3.out
      have hAc := heap_cell hAh
      have hAf := heap_frozen hAh
      have HAH := Lib.hid hAh
      clear hAh
      have hne : ¬ w2.heap.size = w.heap.size := by omega
      have hne2 : ¬ w.heap.size = w2.heap.size := by omega
      have HBB := Lib.hid (HB3.out.trans (below_of_grownBy HST5.out.2 HB3.out.size (fun k e => by have := Option.some.inj e; omega)))
      by_cases hq : q = 0
      · subst hq
        go_wp2_with fail
        have hB5 : b < w5.heap.size := HST5.out.1.lt
        have H5 : Hid (StSO b w2.heap.size w #[.string p, .int .i64 x1, .int .i64 x2, .int .i64 x3, .int .i64 x4] w5.drew) := Lib.hid ⟨HST5.out.1.kept (row := none) (w' := World.drew w5) (grownBy_drewN w5 1 none) (by simp), (HST5.out.2.block w2.heap.size hlt3 (fun e => by have := Option.some.inj e; omega)).trans HC3.out, ⟨_, _, _, _, _, HAH.out, by decide⟩, HBB.out.drew⟩
        have hgb : w2.heap.size ≠ b := by omega
        refine wp_region_rs (Keep := KeepU w5.heap.size) [28, 29, 30, 31, 32, 3] (fun us => _)
          [spU _ (· = .agg #[.string p, .int .i64 x1, .int .i64 x2, .int .i64 x3, .int .i64 x4]), spU _ (· = .pointer (some ⟨b, 0, none⟩)), spU _ (NumB 0 1), spU _ (NumB 400 401), spStrs w5.heap.size, spU _ (fun _ => True), spStrs w5.heap.size]
          (fun W => StSO b w2.heap.size w #[.string p, .int .i64 x1, .int .i64 x2, .int .i64 x3, .int .i64 x4] W ∧ w5.heap.size ≤ W.heap.size) (by kernel_rfl) (by kernel_rfl) (Nat.le_of_ble_eq_true rfl) (fun us => by simp [over, List.mapIdx_cons]; exact rfl) ?_ (fun w => keepU_refl _ _) ?_ ?_
        · exact ⟨H5.out, Nat.le_refl _⟩
        · refine ⟨?_, ?_, ?_, ?_, ?_, ?_, ?_, trivial⟩
          all_goals (intro us wr hst' hd; rw [if_pos (by kernel_rfl)]; dsimp only; obtain ⟨hst, hsz⟩ := hst')
          · clear hd
            have hc := heap_cell hst.2.1
            go_simp
            exact su_fit hsz (su_same hst rfl)
          · clear hd
            go_simp
            exact su_fit hsz (su_same hst rfl)
          · have d29 : us 29 = .pointer (some ⟨b, 0, none⟩) := hd ⟨1, .data⟩ (by simp) rfl
            clear hd
            go_simp
            exact su_fitC hsz (su_next hst hB5 hwb hgb (by decide) (by decide) (by decide) (by decide))
          · have d30 : NumB 0 1 (us 30) := hd ⟨2, .data⟩ (by simp) rfl
            clear hd
            obtain ⟨r, e30, l30, u30⟩ := d30
            have hw : IntKind.i64.wrap (400 + r) = 400 + r := IntWalk.i64_in _ (by omega)
            go_simp
            exact su_fit hsz (su_same hst ⟨_, rfl, by omega, by omega⟩)
          · have d31 : NumB 400 401 (us 31) := hd ⟨3, .data⟩ (by simp) rfl
            clear hd
            obtain ⟨r, e31, l31, u31⟩ := d31
            obtain ⟨m, rfl⟩ := Int.eq_ofNat_of_zero_le (show 0 ≤ r by omega)
            have hm := make_strs m (by omega) wr
            go_simp
            exact su_fit hsz (su_new hst ⟨wr.heap.size, m, rfl, by omega, (ownS_made wr m (by omega)).weak hsz⟩)
          · have d28 : us 28 = .agg #[.string p, .int .i64 x1, .int .i64 x2, .int .i64 x3, .int .i64 x4] := hd ⟨0, .data⟩ (by simp) rfl
            clear hd
            obtain ⟨h1, h2, ⟨q, y1, y2, y3, y4, h3, h4⟩, h5⟩ := hst
            have hc := heap_cell h3
            have hf := heap_frozen h3
            have H := Lib.hid (And.intro h1 (And.intro h2 (And.intro h3 h5)))
            clear h1 h2 h3 h5
            go_simp
            have hgr := grownBy_trans (grownBy_trans (grownBy_trans (grownBy_trans (grownBy_set wr w.heap.size 0 (.string p)) (grownBy_set _ w.heap.size 1 (.int .i64 x1))) (grownBy_set _ w.heap.size 2 (.int .i64 x2))) (grownBy_set _ w.heap.size 3 (.int .i64 x3))) (grownBy_set _ w.heap.size 4 (.int .i64 x4))
            obtain ⟨h1, h2, h3, h5⟩ := H.out
            refine ⟨⟨⟨src_box h1 h3 (by omega) hgr, (hgr.block _ (Array.getElem?_eq_some_iff.1 h2).1 (fun e => by have := Option.some.inj e; omega)).trans h2, ⟨p, x1, x2, x3, x4, src_set (src_set (src_set (src_set (src_set h3 0 _) 1 _) 2 _) 3 _) 4 _, HP.out⟩, ?_⟩, by have := hgr.size; omega⟩, ⟨hgr.size, fun k hk hl => hgr.block k hl (fun e => by have := Option.some.inj e; omega)⟩, trivial⟩
            iterate 5 (refine Below.setCell ?_ (by dsimp only; omega) _)
            exact h5
          · have d32 : MadeS w5.heap.size (us 32) wr := hd ⟨4, .data⟩ (by simp) rfl
            clear hd
            obtain ⟨g, m, e32, hm, ho⟩ := d32
            have HO := Lib.hid ho
            clear ho
            go_simp
            exact su_fit hsz (su_same hst ⟨g, m, rfl, hm, HO.out⟩)
        · intro us w6 hst' hd
          obtain ⟨hst, hsz⟩ := hst'
          have d3 : MadeS w5.heap.size (us 3) w6 := hd 6 (by simp)
          clear hd
          obtain ⟨g, m, e3, hm, ho⟩ := d3
          have HO6 := Lib.hid ho.strs
          obtain ⟨h1, h2, ⟨q, y1, y2, y3, y4, h3, h4⟩, h5⟩ := hst
          have hc6 := heap_cell h3
          have HB6 := Lib.hid h5
          clear h1 h2 h3 h5 ho hCc hAc hAf
          refine wpList_nil ?_
          rw [e3]
          go_wp2_with fail
          exact bodyPost_ret (v := .tuple #[.agg #[.string q, .int .i64 y1, .int .i64 y2, .int .i64 y3, .int .i64 y4], .slice (some ⟨g, 0, none⟩) m m]) (by simp [results, Tryd.results27, go_sem, hc6]) rfl ⟨q, y1, y2, y3, y4, some ⟨g, 0, none⟩, List.replicate m ⟨#[]⟩, m, by rw [List.length_replicate], h4, HO6.out, by rw [List.length_replicate]; omega, fun s hs => by rw [List.eq_of_mem_replicate hs]; decide, HB6.out⟩
      · have hq2 : (q == 0) = false := by simp; omega
        obtain ⟨aS, cS, rfl, hS⟩ := HO5.out.read
        have hSb : ∀ ad, aS = some ad → w3.heap.size ≤ ad.block := fun ad e => by
          subst e
          rcases HO5.out.2 with ⟨h1, _⟩ | ⟨g, cap, cur, h1, hb, _⟩
          · cases h1
          · cases h1; exact hb
        have HS5 := Lib.hid hS
        have HSB := Lib.hid hSb
        clear hS hSb hq
        go_wp2_with fail
        refine bodyPost_ret (v := .tuple #[.agg #[.string p, .int .i64 x1, .int .i64 x2, .int .i64 x3, .int .i64 x4], .slice aS ms.length cS]) (by simp [results, Tryd.results27, go_sem, hAc]) rfl ⟨p, x1, x2, x3, x4, aS, ms, cS, rfl, HP.out, ?_, by omega, HMS.out, ?_⟩
        · iterate 5 (refine strs_other ?_ (fun ad e => by have := HSB.out ad e; omega))
          exact HS5.out
        · iterate 5 (refine Below.setCell ?_ (by dsimp only; omega) _)
          exact HBB.out

end Go.Proofs.YtnijdfdcjjbneaaDoor
