import Derived.Test.YtpilkgcghlfdmaaGreatDoorM0
import Derived.Test.YtpilkgcghlfdmaaGreatDoorM1
import Derived.Test.YtpilkgcghlfdmaaGreatDoorVJnW
namespace Go.Proofs.YtpilkgcghlfdmaaGreatDoor
open Go.RowKit

/-- while things are drawn into a row of the call's own -/
def StE {α : Type} (E : Enc α) (w : World) (b : Nat) (v : Value) (xs : List α) (W : World) : Prop := StB b w W ∧ E.Own W w.heap.size v xs
theorem StE.draw {α : Type} {E : Enc α} {w W W' : World} {b : Nat} {v : Value} {xs : List α} (h : StE E w b v xs W) (hlt : b < w.heap.size) (hs : Src W' b) (hg : W.grownBy W' (some b)) : StE E w b v xs W' := ⟨stB_trans h.1 hs hg, h.2.src hlt hg⟩
theorem StE.app {α : Type} {E : Enc α} {w W w' : World} {b : Nat} {v v' : Value} {xs ys : List α} {o : Obj} (h : StE E w b v xs W) (hlt : b < w.heap.size) (hg : (W.alloc o).grownBy w' v.ownBlock) (ho : E.Own w' w.heap.size v' ys) : StE E w b v' ys w' :=
  ⟨⟨(stB_alloc h.1 o).1.kept hg (fun k e => by have := h.2.lo k e; omega), (stB_alloc h.1 o).2.andThen hg (fun j e => Or.inl (by have := h.2.lo j e; omega))⟩, ho⟩
/-- drawn records -/
def RetDR (w : World) (b : Nat) (e : Ending) (w' : World) : Prop :=
  ∃ (rs : List Rc) (a : Option Addr) (c : Nat), e = .returned (.slice a rs.length c) ∧ rs.length ≤ 310 ∧ StE rcE w b (.slice a rs.length c) rs w'

set_option maxRecDepth 100000 in
set_option maxHeartbeats 1000000 in
theorem l32DrawList_any (b : Nat) (w : World) (hs : Src w b) :
    Calls Tryz.prog 58 #[.pointer (some ⟨b, 0, none⟩)] w (RetDR w b) := by
  have hlt := hs.lt
  have HS := Lib.hid hs
  clear hs
  go_enter Tryz.func58, Tryz.ntmps58
  go_wp2_with fail
  refine (l01Next_any b 10 _ (HS.out.kept (World.grownBy_alloc _ _ none) (by simp)) (by decide) (by decide)).mono ?_
  rintro e W1 ⟨r1, rfl, p0, p1, hs, hg⟩
  have H0 : Hid (StE rcE w b (.slice (some ⟨w.heap.size, 0, none⟩) 0 0) [] W1) := Lib.hid (StE.draw (W := w.alloc (.cells #[] 53 (0, 0))) ⟨⟨HS.out.kept (World.grownBy_alloc _ _ none) (by simp), World.grownBy_alloc _ _ _⟩, Enc.Own.new rcE w⟩ hlt hs hg)
  have q1 : r1 ≤ 9 := by omega
  clear hs hg p1
  obtain ⟨k1, rfl⟩ := Int.eq_ofNat_of_zero_le p0
  go_wp2_with fail
  go_loopw [3, 4] (fun v i wr => ∃ (rs : List Rc) (k : Nat), i = .int .i64 k ∧ rs.length + k ≤ 9 ∧ StE rcE w b v rs wr) (fun _ i _ => (intOf i).toNat)
  case atStart => exact ⟨[], k1, rfl, by simp; omega, H0.out⟩
  case round =>
    clear H0
    obtain ⟨rs, k, rfl, hdk, hst⟩ := hrel
    have HST := Lib.hid hst
    have HDK := Lib.hid hdk
    have hk9 : k ≤ 9 := by omega
    obtain ⟨a0, c0, rfl⟩ := hst.2.read
    clear hst hdk
    by_cases hk0 : 0 < k
    · have hki : (0 : Int) < (k : Int) := by omega
      go_wp2_with fail
      refine (l32Draw_any b wr HST.out.1.1).mono ?_
      rintro e W2 ⟨rk, ri, rfl, hrk, hri, hs, hg⟩
      have H2 := Lib.hid (HST.out.draw hlt hs hg)
      clear hs hg
      go_wp2_with (at_builtin; refine wpList_append_rc (o := _) (s := .tmp 12) (x := .tmp 15) rfl rfl w.heap.size (.slice a0 rs.length c0) rs ⟨rk, ri⟩ rfl (H2.out.2.grown (ba1 W2 _)) W2.heap.size rfl (push_at W2 _) (by have := HDK.out; omega) (by have := H2.out.1.2.size; simp; omega) ?h9)
      case h9 =>
      intro a6 c6 l6 w6 he6 ho6 hg6 hb6
      have H6 := Lib.hid (H2.out.app hlt hg6 ho6)
      have HL6 := Lib.hid he6
      clear he6 ho6 hg6 hb6
      go_wp2_with fail
      exact ⟨⟨l6, k - 1, by go_num, by have := HDK.out; rw [HL6.out]; simp; omega, H6.out⟩, by simp [intOf]; omega⟩
    · have hki : ¬ (0 : Int) < (k : Int) := by omega
      go_wp2_with fail
      refine (l01Next_any b 60 _ HST.out.1.1 (by decide) (by decide)).mono ?_
      rintro e W2 ⟨r, rfl, z0, z1, hs, hg⟩
      have H2 := Lib.hid (HST.out.draw hlt hs hg)
      clear hs hg
      by_cases hr0 : r = 0
      · subst hr0
        have hl9 : rs.length ≤ 301 := by have := HDK.out; omega
        clear HDK HST
        go_wp2_with fail
        go_loopw [3] (fun v wr => ∃ (rs : List Rc) (a : Option Addr) (c : Nat), v = .slice a rs.length c ∧ rs.length ≤ 301 ∧ StE rcE w b v rs wr) (fun v _ => 301 - (match v with | .slice _ n _ => n | _ => 0))
        case atStart => exact ⟨rs, a0, c0, rfl, hl9, H2.out⟩
        case round =>
          clear H2 hl9
          obtain ⟨ys, a, c, rfl, hl, hst⟩ := hrel
          have HST := Lib.hid hst
          clear hst
          go_wp2_with fail
          refine (l01Next_any b 2 _ HST.out.1.1 (by decide) (by decide)).mono ?_
          rintro e W3 ⟨r, rfl, z0, z1, hs, hg⟩
          have H3 := Lib.hid (HST.out.draw hlt hs hg)
          have hr1 : r ≤ 1 := by omega
          clear hs hg z1
          by_cases hm : (ys.length : Int) < 300 + r
          · go_wp2_with (at_builtin; refine wpList_append_rc (o := _) (s := .tmp 26) (x := .tmp 28) rfl rfl w.heap.size (.slice a ys.length c) ys ⟨1, 3⟩ rfl (H3.out.2.grown (ba1 W3 _)) W3.heap.size rfl (push_at W3 _) (by omega) (by have := H3.out.1.2.size; simp; omega) ?h9)
            case h9 =>
            intro a6 c6 l6 w6 he6 ho6 hg6 hb6
            have H6 := Lib.hid (H3.out.app hlt hg6 ho6)
            have HL6 := Lib.hid he6
            clear he6 ho6 hg6 hb6
            go_wp2_with fail
            refine ⟨⟨l6, a6, c6, rfl, by rw [HL6.out]; simp; omega, H6.out⟩, ?_⟩
            show 301 - l6.length < 301 - ys.length
            rw [HL6.out]; simp; omega
          · go_wp2_with fail
            go_ret
            exact ⟨ys, a, c, rfl, by omega, H3.out⟩
      · have hrb : (r == 0) = false := by simp [hr0]
        go_wp2_with fail
        go_ret
        exact ⟨rs, a0, c0, rfl, by have := HDK.out; omega, H2.out⟩

/-- n zero bytes -/
def zeroB (n : Nat) : ByteArray := ⟨(List.replicate n (0 : UInt8)).toArray⟩
theorem zeroB_size (n : Nat) : (zeroB n).size = n := by show (List.replicate n (0 : UInt8)).toArray.size = n; simp
theorem make_bytes (n : Nat) (hn : n ≤ 1099511627776) (w : World) :
    (Instr.makeSlice 22 (.int .i64 (n : Int)) (.int .i64 (n : Int))).run Tryz.prog w = .ok (.slice (some ⟨w.heap.size, 0, none⟩) n n) (w.alloc (.cells (madeCells #[.int .u8 0] n) 5)) := by
  obtain ⟨i0, hi, hz0, hz1, hz2⟩ := info_parts infoU8
  have := run_make (P := Tryz.prog) w 22 5 i0 (.int .u8 0) Tryz.underlying22 hi hz0 .i64 .i64 n n (by omega) (Int.le_refl _) (by rw [hz2]; omega) (by omega)
  rw [hz1] at this
  simpa [Value.cells] using this
theorem conv_made (n : Nat) (w : World) :
    (convert 22 9 (.slice (some ⟨w.heap.size, 0, none⟩) n n)).run Tryz.prog (w.alloc (.cells (madeCells #[.int .u8 0] n) 5)) = .ok (.string (zeroB n)) (w.alloc (.cells (madeCells #[.int .u8 0] n) 5)) := by
  have h : BysAt (w.alloc (.cells (madeCells #[.int .u8 0] n) 5)) (some ⟨w.heap.size, 0, none⟩) (List.replicate n (0 : UInt8)) := by
    intro i x hx
    have hi : i < n := by have := (List.getElem?_eq_some_iff.1 hx).1; simpa using this
    rw [List.getElem?_replicate, if_pos hi] at hx
    cases hx
    refine ⟨w.heap.size, 0, rfl, ?_⟩
    have : (madeCells #[.int .u8 0] n)[i]? = some (.int .u8 0) := by
      rw [← Array.getElem?_toList, toList_madeCells_one, List.getElem?_replicate, if_pos hi]
    simpa using this
  have := conv_at (c := n) h
  rw [List.length_replicate] at this
  exact this

theorem jrnS_size (l : List Rc) : (jrnS l).1.size ≤ 6000 := by
  unfold jrnS
  split
  · rename_i h
    have hc := codeJ_ok h
    have := textJ_len l 0 0 (by omega) (by omega) hc.2
    show (textB l).size ≤ 6000
    rw [textB_size]; omega
  · exact Nat.zero_le _

set_option maxRecDepth 100000 in
set_option maxHeartbeats 1000000 in
theorem l32DrawText_any (b : Nat) (w : World) (hs : Src w b) :
    Calls Tryz.prog 34 #[.pointer (some ⟨b, 0, none⟩)] w (RetDmg w b 20001) := by
  have hlt := hs.lt
  have HS := Lib.hid hs
  clear hs
  go_enter Tryz.func34, Tryz.ntmps34
  go_wp2_with fail
  refine (l32DrawList_any b w HS.out).mono ?_
  rintro e w1 ⟨rs, a, c, rfl, hl, hst⟩
  have H1 := Lib.hid hst
  clear hst
  go_wp2_with fail
  refine (specJournalOf_any a rs c w1 (by omega) H1.out.2.at).mono ?_
  rintro e w2 ⟨rfl, hb2⟩
  have H2 : Hid (StB b w w2) := Lib.hid ⟨H1.out.1.1.below hb2, grownBy_trans H1.out.1.2 ⟨hb2.os, hb2.tape, hb2.output, hb2.size, fun k hk _ => hb2.block k hk⟩⟩
  have hz := jrnS_size rs
  obtain ⟨t, ht⟩ : ∃ t, (jrnS rs).1 = t := ⟨_, rfl⟩
  obtain ⟨cd, hcd⟩ : ∃ cd, (jrnS rs).2 = cd := ⟨_, rfl⟩
  rw [ht] at hz ⊢
  rw [hcd]
  clear hb2 ht hcd H1
  by_cases hc0 : cd = 0
  · subst hc0
    go_wp2_with fail
    refine (l01Next_any b 5 _ H2.out.1 (by decide) (by decide)).mono ?_
    rintro e w3 ⟨r, rfl, z0, z1, hs, hg⟩
    have H3 : Hid (StB b w w3) := Lib.hid (stB_trans H2.out hs hg)
    clear hs hg
    by_cases hr0 : r = 0
    · subst hr0
      have e1 : IntKind.i64.wrap ((t.size : Int) + 1) = (t.size : Int) + 1 := IntWalk.i64_in _ (by omega)
      go_wp2_with fail
      refine (l01Next_any b _ _ H3.out.1 (by omega) (by omega)).mono ?_
      rintro e w4 ⟨q, rfl, y0, y1, hs, hg⟩
      have H4 : Hid (StB b w w4) := Lib.hid (stB_trans H3.out hs hg)
      obtain ⟨k, rfl⟩ := Int.eq_ofNat_of_zero_le y0
      have hk : k ≤ t.size := by omega
      clear hs hg y1
      go_wp2_with fail
      go_ret
      exact ⟨t.extract 0 k, rfl, by rw [ext_size]; omega, H4.out.1, H4.out.2⟩
    by_cases hr1 : r = 1
    · subst hr1
      go_wp2_with fail
      refine (l01Damage_any b t 6000 _ H3.out.1 hz (by decide)).mono ?_
      rintro e w4 ⟨t2, rfl, ht2, hs, hg⟩
      have H4 : Hid (StB b w w4) := Lib.hid (stB_trans H3.out hs hg)
      clear hs hg
      go_wp2_with fail
      go_ret
      exact ⟨t2, rfl, by omega, H4.out.1, H4.out.2⟩
    · have e0 : (r == 0) = false := by simp [hr0]
      have e1 : (r == 1) = false := by simp [hr1]
      go_wp2_with fail
      refine (l01Next_any b 60 _ H3.out.1 (by decide) (by decide)).mono ?_
      rintro e w4 ⟨q, rfl, y0, y1, hs, hg⟩
      have H4 : Hid (StB b w w4) := Lib.hid (stB_trans H3.out hs hg)
      clear hs hg
      by_cases hq0 : q = 0
      · subst hq0
        go_wp2_with fail
        refine (l01Next_any b 2 _ H4.out.1 (by decide) (by decide)).mono ?_
        rintro e w5 ⟨u, rfl, x0, x1, hs, hg⟩
        have H5 : Hid (StB b w w5) := Lib.hid (stB_trans H4.out hs hg)
        obtain ⟨k, rfl⟩ := Int.eq_ofNat_of_zero_le x0
        have hk : k ≤ 1 := by omega
        have hmk := make_bytes (20000 + k) (by omega) w5
        rw [show ((20000 + k : Nat) : Int) = 20000 + (k : Int) by omega] at hmk
        have hcv := conv_made (20000 + k) w5
        have H6 := Lib.hid (stB_alloc H5.out (.cells (madeCells #[.int .u8 0] (20000 + k)) 5))
        have HZ := Lib.hid (zeroB_size (20000 + k))
        clear hs hg x1
        go_wp2_with fail
        go_ret
        exact ⟨zeroB (20000 + k), rfl, by rw [HZ.out]; omega, H6.out.1, H6.out.2⟩
      · have e2 : (q == 0) = false := by simp [hq0]
        go_wp2_with fail
        go_ret
        exact ⟨t, rfl, by omega, H4.out.1, H4.out.2⟩
  · have h2 : (cd != 0) = true := by simpa using hc0
    go_wp2_with fail
    go_ret
    exact ⟨_, rfl, by decide, H2.out.1, H2.out.2⟩

end Go.Proofs.YtpilkgcghlfdmaaGreatDoor
