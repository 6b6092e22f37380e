import Derived.Test.YtlcglclojlffgaaGreatDoorVSpl
import Derived.Test.YtlcglclojlffgaaGreatDoorVDecS
namespace Go.Proofs.YtlcglclojlffgaaGreatDoor
open Go.RowKit

theorem infoStr : (Tryz.prog.info? 9).map (fun i => (i.zero, i.size, i.bytes)) = some (some (.string ⟨#[]⟩), 1, 16) := by kernel_rfl
/-- while a text is cut -/
structure SplI (l : List UInt8) (c : UInt8) (k f : Nat) (ss : List ByteArray) : Prop where
  len : k ≤ l.length + 1
  fk : f ≤ k
  num : ss.length ≤ k
  mid : k ≤ l.length → bytesL ss ++ cut c (l.drop f) = cut c l ∧ c ∉ (l.drop f).take (k - f)
  fin : k = l.length + 1 → bytesL ss = cut c l

theorem splI_start (l : List UInt8) (c : UInt8) : SplI l c 0 0 [] :=
  ⟨Nat.zero_le _, Nat.le_refl _, Nat.zero_le _, fun _ => by simp [bytesL], fun h => by omega⟩
theorem splI_skip {l : List UInt8} {c x : UInt8} {k f : Nat} {ss : List ByteArray} (h : SplI l c k f ss) (hx : l[k]? = some x) (hne : x ≠ c) : SplI l c (k + 1) f ss := by
  have hk : k < l.length := (List.getElem?_eq_some_iff.1 hx).1
  obtain ⟨h1, h2⟩ := h.mid (by omega)
  have hfk := h.fk
  refine ⟨by omega, by omega, by have := h.num; omega, fun _ => ⟨h1, ?_⟩, fun e => by omega⟩
  rw [show k + 1 - f = (k - f) + 1 by omega]
  rw [List.take_add_one, List.getElem?_drop, show f + (k - f) = k by omega, hx]
  simp only [Option.toList_some, List.mem_append, List.mem_singleton, not_or]
  exact ⟨h2, fun e => hne e.symm⟩
theorem drop_split {l : List UInt8} {x : UInt8} {k f : Nat} (hx : l[k]? = some x) (hfk : f ≤ k) : l.drop f = (l.drop f).take (k - f) ++ x :: l.drop (k + 1) := by
  have hk : k < l.length := (List.getElem?_eq_some_iff.1 hx).1
  have e := (List.take_append_drop (k - f) (l.drop f)).symm
  rw [List.drop_drop, show f + (k - f) = k by omega] at e
  rw [List.drop_eq_getElem_cons hk] at e
  have hxk : l[k] = x := (List.getElem?_eq_some_iff.1 hx).2
  rw [hxk] at e
  exact e
theorem bytesL_snoc (ss : List ByteArray) (b : ByteArray) : bytesL (ss ++ [b]) = bytesL ss ++ [b.data.toList] := by rw [bytesL, List.map_append]; rfl
theorem splI_cut {l : List UInt8} {c : UInt8} {k f : Nat} {ss : List ByteArray} {b : ByteArray} (h : SplI l c k f ss) (hx : l[k]? = some c) (hb : b.data.toList = (l.drop f).take (k - f)) : SplI l c (k + 1) (k + 1) (ss ++ [b]) := by
  have hk : k < l.length := (List.getElem?_eq_some_iff.1 hx).1
  obtain ⟨h1, h2⟩ := h.mid (by omega)
  refine ⟨by omega, by omega, by have := h.num; simp; omega, fun _ => ⟨?_, by simp⟩, fun e => by omega⟩
  rw [bytesL_snoc, hb, List.append_assoc, List.singleton_append, ← h1]
  conv => rhs; rw [drop_split hx h.fk, cut_app c _ _ h2]
theorem splI_end {l : List UInt8} {c : UInt8} {f : Nat} {ss : List ByteArray} {b : ByteArray} (h : SplI l c l.length f ss) (hb : b.data.toList = (l.drop f).take (l.length - f)) : SplI l c (l.length + 1) (l.length + 1) (ss ++ [b]) := by
  obtain ⟨h1, h2⟩ := h.mid (Nat.le_refl _)
  refine ⟨Nat.le_refl _, by omega, by have := h.num; simp; omega, fun e => by omega, fun _ => ?_⟩
  have e : (l.drop f).take (l.length - f) = l.drop f := List.take_of_length_le (by simp)
  rw [e] at h2 hb
  rw [bytesL_snoc, hb, ← h1, cut_piece c _ h2]
theorem extract_toList (s : ByteArray) (f k : Nat) : (s.extract f k).data.toList = (s.data.toList.drop f).take (k - f) := by
  rw [ByteArray.data_extract, Array.toList_extract, List.extract_eq_take_drop]
theorem str_one_new (w : World) (x : ByteArray) (t : TypeId) : ∀ j u, [Value.string x][j]? = some u → (w.alloc (.cells #[.string x] t (0, 0))).cell? ((⟨w.heap.size, 0, none⟩ : Addr).add j) = some u := by
  intro j u hu
  rw [Addr.add_lit, Nat.zero_add, ← hu]
  simp
theorem str_one (x : ByteArray) : ∀ u ∈ [Value.string x], u.oneCell' = true := by
  intro u hu
  simp only [List.mem_singleton] at hu
  subst hu; rfl
theorem OwnS.snoc {w : World} {base : Nat} {v : Value} {ss : List ByteArray} {b : ByteArray} (h : w.ownsRow base 9 1 v (ss.length + 1) (ss.map Value.string ++ [.string b])) : OwnS w base v (ss ++ [b]) := by
  unfold OwnS
  rw [List.length_append, List.map_append]
  simpa using h
theorem OwnS.new (w : World) : OwnS (w.alloc (.cells #[] 9 (0, 0))) w.heap.size (.slice (some ⟨w.heap.size, 0, none⟩) 0 0) [] :=
  World.ownsRow_lit (base := w.heap.size) (size := 1) w #[] 0 (Nat.le_refl _) (by unfold maxLen; omega) rfl

/-- texts of the call's own are handed back -/
def RetStrs (w : World) (l : List (List UInt8)) (e : Ending) (w' : World) : Prop :=
  ∃ (ss : List ByteArray) (a : Option Addr) (cp : Nat), bytesL ss = l ∧ e = .returned (.slice a ss.length cp) ∧ OwnS w' w.heap.size (.slice a ss.length cp) ss ∧ Below w.heap.size w w'
theorem below_of_grownBy' {w wr w9 : World} {v : Value} {o : Obj} (hb : Below w.heap.size w wr) (hlo : ∀ k, v.ownBlock = some k → w.heap.size ≤ k) (hg : (wr.alloc o).grownBy w9 v.ownBlock) : Below w.heap.size w w9 :=
  (bt0 hb (ba1 _ _) (Nat.le_refl _)).trans (below_of_grownBy hg (by have := hb.size; simp; omega) hlo)

set_option maxRecDepth 100000 in
set_option maxHeartbeats 1000000 in
theorem l01Split_any (s : ByteArray) (c : UInt8) (w : World) (hs : s.size ≤ 1048576) :
    Calls Tryz.prog 37 #[.string s, .int .u8 c.toNat] w (RetStrs w (cut c s.data.toList)) := by
  obtain ⟨i0, hi, y0, y1, y2⟩ := info_parts infoStr
  go_enter Tryz.func37, Tryz.ntmps37
  go_wp2_with fail
  go_loopw [5, 6, 7] (fun v f i wr => ∃ (k g : Nat) (ss : List ByteArray), i = .int .i64 k ∧ f = .int .i64 g ∧ SplI s.data.toList c k g ss ∧ OwnS wr w.heap.size v ss ∧ Below w.heap.size w wr) (fun _ _ i _ => s.data.toList.length + 1 - (intOf i).toNat)
  case atStart => exact ⟨0, 0, [], rfl, rfl, splI_start _ _, OwnS.new w, ba1 _ _⟩
  case round =>
    obtain ⟨k, g, ss, rfl, rfl, hi', ho, hb⟩ := hrel
    obtain ⟨a, cp, rfl, -⟩ := ho.read
    have HI := Lib.hid hi'
    have HO := Lib.hid ho
    have HB := Lib.hid hb
    have hfk := hi'.fk
    have hkl := hi'.len
    have HNM := Lib.hid hi'.num
    have HBS := Lib.hid hb.size
    clear hi' ho hb
    have hsz : s.data.toList.length = s.size := rfl
    by_cases hlt : k < s.size
    · have hk1 : (k : Int) ≤ (s.size : Int) := by omega
      have hk2 : ((k : Int) == (s.size : Int)) = false := by simp; omega
      have hxk : Hid (s.data.toList[k]? = some s[k]) := Lib.hid (by
        rw [List.getElem?_eq_getElem (by omega)]
        rfl)
      by_cases hx : s[k] = c
      · have hx2 : (((s[k].toNat : Nat) : Int) == ((c.toNat : Nat) : Int)) = true := by rw [hx]; simp
        have HXK : Hid (s.data.toList[k]? = some c) := Lib.hid (by rw [hxk.out, hx])
        clear hx hxk
        go_wp2_with (at_builtin; refine wpList_append_own _ rfl _ _ 55 rfl w.heap.size 9 i0 (.string ⟨#[]⟩) 1 16 Tryz.underlying55 hi y0 y1 y2 rfl (by decide) _ _ _ rfl (World.ownsRow.alloc HO.out _) ⟨wr.heap.size, 0, none⟩ 1 1 [.string (s.extract g k)] rfl rfl (str_one_new _ _ _) (str_one _) (by have := HNM.out; unfold maxLen; omega) (by have := HNM.out; omega) (by have := HBS.out; simp; omega) ?_; intro v' w9 hown3 hgrow3 _)
        refine ⟨⟨k + 1, k + 1, _, by go_num, by go_num, splI_cut HI.out HXK.out (extract_toList s g k), OwnS.snoc hown3, ?_⟩, by simp [intOf]; omega⟩
        exact below_of_grownBy' HB.out HO.out.lo hgrow3
      · have hx2 : (((s[k].toNat : Nat) : Int) == ((c.toNat : Nat) : Int)) = false := by
          rw [Bool.eq_false_iff]; intro e
          have e2 : ((s[k].toNat : Nat) : Int) = ((c.toNat : Nat) : Int) := by simpa using e
          exact hx (UInt8.toNat_inj.1 (by omega))
        have HX := Lib.hid hx
        clear hx
        go_wp2_with fail
        exact ⟨⟨k + 1, g, ss, by go_num, rfl, splI_skip HI.out hxk.out HX.out, HO.out, HB.out⟩, by simp [intOf]; omega⟩
    · by_cases hlt2 : k = s.size
      · subst hlt2
        go_wp2_with (at_builtin; refine wpList_append_own _ rfl _ _ 55 rfl w.heap.size 9 i0 (.string ⟨#[]⟩) 1 16 Tryz.underlying55 hi y0 y1 y2 rfl (by decide) _ _ _ rfl (World.ownsRow.alloc HO.out _) ⟨wr.heap.size, 0, none⟩ 1 1 [.string (s.extract g s.size)] rfl rfl (str_one_new _ _ _) (str_one _) (by have := HNM.out; unfold maxLen; omega) (by have := HNM.out; omega) (by have := HBS.out; simp; omega) ?_; intro v' w9 hown3 hgrow3 _)
        refine ⟨⟨s.size + 1, s.size + 1, _, by go_num, by go_num, splI_end HI.out (extract_toList s g s.size), OwnS.snoc hown3, ?_⟩, by first | (simp [intOf]; done) | (simp [intOf]; omega)⟩
        exact below_of_grownBy' HB.out HO.out.lo hgrow3
      · have hk3 : k = s.size + 1 := by omega
        have hk1 : ¬ (k : Int) ≤ (s.size : Int) := by omega
        go_wp2_with fail
        go_ret
        exact ⟨ss, a, cp, HI.out.fin hk3, rfl, HO.out, HB.out⟩

end Go.Proofs.YtlcglclojlffgaaGreatDoor
