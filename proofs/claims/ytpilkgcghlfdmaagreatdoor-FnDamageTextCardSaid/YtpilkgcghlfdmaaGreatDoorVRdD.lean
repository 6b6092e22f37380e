import Derived.Test.YtpilkgcghlfdmaaGreatDoorVPsD3
import Derived.Test.YtpilkgcghlfdmaaGreatDoorVOwnD
import Derived.Test.YtpilkgcghlfdmaaGreatDoorM1
import Derived.Defers
import Derived.Recover
namespace Go.Proofs.YtpilkgcghlfdmaaGreatDoor
open Go.RowKit

/-- the damages that the program reads out of a text -/
def rdS (s : ByteArray) : Option (List Dm) := if s.data.toList = [] then some [] else rdText s.data.toList

set_option maxRecDepth 100000 in
theorem rdClo_panicking (A : Nat) (u : TypeId) (pv : Value) (x y : Value) (w : World) (hp : w.cell? ⟨A, 0, none⟩ = some x) (fp : w.frozen? ⟨A, 0, none⟩ = false) (hq : w.cell? ⟨A + 1, 0, none⟩ = some y) (fq : w.frozen? ⟨A + 1, 0, none⟩ = false) :
    CallsD Tryz.prog 30 #[.pointer (some ⟨A, 0, none⟩), .pointer (some ⟨A + 1, 0, none⟩)] (.panicking [{ v := .iface u pv, recovered := false }]) w fun e u' w' =>
      e = .returned (.tuple #[]) ∧ u' = .panicking [{ v := .iface u pv, recovered := true }] ∧ w' = (w.setCell ⟨A, 0, none⟩ (.slice none 0 0)).setCell ⟨A + 1, 0, none⟩ (.bool false) := by
  refine callsD_of_wpS Tryz.func30 rfl fun c₀ cs hu => ?_
  apply wpS_seq
  apply wpS_region
  simp [wpOpsS, go_sem, recoverD, hu, Tryz.ntmps30, Exit.thenS]
  refine wpS_cond (t := true) (by simp [Act.eval, Array.replicate]) ?_
  simp only [if_true]
  apply wpS_region
  simp [wpOpsS, go_sem, hp, fp, hq, fq, bodyPostS, results, Tryz.results30]

set_option maxRecDepth 100000 in
theorem rdClo_idle (A B : Nat) (w : World) :
    CallsD Tryz.prog 30 #[.pointer (some ⟨A, 0, none⟩), .pointer (some ⟨B, 0, none⟩)] .returning w fun e u' w' => e = .returned (.tuple #[]) ∧ u' = .returning ∧ w' = w := by
  refine callsD_of_wpS Tryz.func30 rfl fun c₀ cs hu => ?_
  apply wpS_seq
  apply wpS_region
  simp [wpOpsS, go_sem, recoverD, hu, Tryz.ntmps30, Exit.thenS]
  refine wpS_cond (t := false) (by simp [Act.eval, Array.replicate]) ?_
  simp only [Bool.false_eq_true, if_false]
  refine wpS_of_wp (wp_skip ?_)
  cases c₀
  simp_all [bodyPostS, results, Tryz.results30]

/-- what ReadDamages answers -/
def RetRD (w : World) (o : Option (List Dm)) (e : Ending) (w' : World) : Prop :=
  Below w.heap.size w w' ∧ match o with
  | some ds => ∃ a c, e = .returned (.tuple #[.slice a ds.length c, .bool true]) ∧ OwnD w' w.heap.size (.slice a ds.length c) ds
  | none => e = .returned (.tuple #[.slice none 0 0, .bool false])

set_option maxRecDepth 100000 in
set_option maxHeartbeats 1000000 in
theorem readDamages_empty (w : World) :
    Calls Tryz.prog 9 #[.string ⟨#[]⟩] w (RetRD w (some [])) := by
  go_enter_defers Tryz.func9, Tryz.ntmps9
  go_wp2_with fail
  refine ⟨.tuple #[.slice (some ⟨w.heap.size + 1 + 1, 0, none⟩) 0 0, .bool true], by simp [results, Tryz.results9, go_sem], ba3 w _ _ _, _, _, rfl, ?_⟩
  have h := OwnD.new ((w.alloc (.cells #[.slice (some ⟨w.heap.size + 1 + 1, 0, none⟩) 0 0] 24)).alloc (.cells #[.bool true] 4))
  simp only [World.size_alloc] at h
  exact h.weak (by omega)

set_option maxRecDepth 100000 in
set_option maxHeartbeats 1000000 in
theorem readDamages_many (s : ByteArray) (w : World) (hs : s.size ≤ 1048576) (hne : s.data.toList ≠ []) (hE : Env w) (h20 : 20 < (cut 59 s.data.toList).length) :
    Calls Tryz.prog 9 #[.string s] w (RetRD w (rdText s.data.toList)) := by
  have hmf : ∀ (fn : Fn) (first cap : Array Value) (w : World), (Instr.makeFunc fn first cap).run Tryz.prog w = .ok (.func fn first cap) w := fun _ _ _ _ => rfl
  have e0 : (s.toList == []) = false := word_ne hne
  have HE := Lib.hid hE
  have HN := Lib.hid (show rdText s.data.toList = none by rw [rdText, if_pos h20])
  clear hE hne
  go_enter_defers Tryz.func9, Tryz.ntmps9
  go_wp2_with fail
  refine (split_any s 59 _ hs (HE.out.next (ba2 w _ _))).mono ?_
  rintro e w1 ⟨ss, hss, -, -, rfl, rfl⟩
  have hl : (20 : Int) < (ss.length : Int) := by
    have := congrArg List.length hss
    rw [bytesL, List.length_map] at this
    omega
  clear hss h20
  go_wp2_with fail
  refine leaves_cons (f := 30) (args := #[.pointer (some ⟨w.heap.size, 0, none⟩), .pointer (some ⟨w.heap.size + 1, 0, none⟩)]) (by simp) (by simp [go_sem]) ?_
  refine (rdClo_idle w.heap.size (w.heap.size + 1) _).mono ?_
  rintro e u' w'' ⟨rfl, rfl, rfl⟩
  rw [HN.out]
  refine ⟨.tuple #[.slice none 0 0, .bool false], by simp [results, Tryz.results9, go_sem], ?_, rfl⟩
  exact ba3 w _ _ _

/-- an operation that calls, and the call panics -/
def dies (P : Program) (o : Oper) (a : Act) (w : World) (R : List PanicEntry → World → Prop) : Prop :=
  match (execOp a.eval o).run P w with
  | .ok (.enter f args) w' => Calls P f args w' (fun e w'' => ∃ ch, e = .panicked ch ∧ R ch w'')
  | _ => False
attribute [go_sem] dies
theorem wp_of_dies {P : Program} {o : Oper} {a : Act} {w : World} {R : List PanicEntry → World → Prop} {K : Act → World → Prop} {Q : Exit → Act → World → Prop} (h : ∀ ch w', R ch w' → Q (.panic ch) a w') (hh : dies P o a w R) : o.wp P a w K Q := by
  unfold dies at hh
  unfold Oper.wp
  generalize (execOp a.eval o).run P w = r at *
  cases r with
  | ok n w' =>
    cases n <;> simp only [] at hh <;> simp only [Oper.upon]
    case enter f args => exact hh.mono fun e w'' ⟨v, he, hr⟩ => by subst he; exact h _ _ hr
  | halt x w' => simp only [] at hh

theorem rdAll_app : ∀ (xs ys : List (List UInt8)), rdAll (xs ++ ys) = match rdAll xs with
    | none => none
    | some a => match rdAll ys with | none => none | some b => some (a ++ b)
  | [], ys => by simp only [List.nil_append, rdAll]; cases rdAll ys <;> rfl
  | x :: xs, ys => by
    rw [List.cons_append, rdAll, rdAll_app xs ys, rdAll]
    cases rdOne (cut 32 x) with
    | none => rfl
    | some d =>
      cases rdAll xs with
      | none => rfl
      | some a => cases rdAll ys <;> rfl
theorem rdAll_take {ss : List ByteArray} {k : Nat} {z : ByteArray} (hz : ss[k]? = some z) : bytesL (ss.take (k + 1)) = bytesL (ss.take k) ++ [z.data.toList] := by
  rw [take_snoc' hz, bytesL, List.map_append]; rfl
theorem rdAll_step {ss : List ByteArray} {k : Nat} {z : ByteArray} {ds : List Dm} {d : Dm} (hz : ss[k]? = some z) (h : rdAll (bytesL (ss.take k)) = some ds) (hd : rdOne (cut 32 z.data.toList) = some d) : rdAll (bytesL (ss.take (k + 1))) = some (ds ++ [d]) := by
  rw [rdAll_take hz, rdAll_app, h]
  simp only [rdAll, hd]
theorem rdAll_none {ss : List ByteArray} {k : Nat} {z : ByteArray} (hz : ss[k]? = some z) (hd : rdOne (cut 32 z.data.toList) = none) : rdAll (bytesL ss) = none := by
  have hlt : k < ss.length := (List.getElem?_eq_some_iff.1 hz).1
  have e : ss = ss.take (k + 1) ++ ss.drop (k + 1) := (List.take_append_drop _ _).symm
  have e2 : bytesL ss = bytesL (ss.take k) ++ [z.data.toList] ++ bytesL (ss.drop (k + 1)) := by
    rw [← rdAll_take hz]
    conv => lhs; rw [e]
    rw [bytesL, List.map_append]; rfl
  rw [e2, rdAll_app, rdAll_app]
  have e3 : rdAll [z.data.toList] = none := by rw [rdAll, hd]
  rw [e3]
  cases rdAll (bytesL (ss.take k)) <;> rfl
theorem rdAll_end {ss : List ByteArray} {k : Nat} {ds : List Dm} (hk : ss.length ≤ k) (h : rdAll (bytesL (ss.take k)) = some ds) : rdAll (bytesL ss) = some ds := by
  rw [List.take_of_length_le hk] at h; exact h

/-- what is said of a value while only block q changes -/
def spQ (q : Nat) (p : Value → Prop) : Sp (fun W W' : World => W.grownBy W' (some q)) := ⟨fun v _ => p v, fun _ _ _ _ h => h⟩
/-- a row of one damage -/
def dmV (d : Dm) : Value := .agg #[.int .i64 d.k, .int .i64 d.r, .int .i64 d.c, .int .i64 d.t, .int .i64 d.w, .int .i64 d.g]
def spQd (q : Nat) (d : Dm) : Sp (fun W W' : World => W.grownBy W' (some q)) :=
  ⟨fun u W => ∃ g, u = .slice (some ⟨g, 0, none⟩) 1 1 ∧ g ≠ q ∧ W.heap[g]? = some (.cells #[.int .i64 d.k, .int .i64 d.r, .int .i64 d.c, .int .i64 d.t, .int .i64 d.w, .int .i64 d.g] 30 (0, 0)),
    fun _ _ _ hk ⟨g, e, hne, hg⟩ => ⟨g, e, hne, (gb_cell hk hne (blkLt hg)).trans hg⟩⟩
def RdQ (q : Nat) (w3 : World) (L : Nat → Bool) (W : World) : Prop := (L 2 = false → W = w3.drew) ∧ w3.grownBy W (some q)
theorem rdQ0 (q : Nat) (w3 : World) : RdQ q w3 (fun _ => false) w3.drew := ⟨fun _ => rfl, gb_below (Below.refl _ _).drew⟩

theorem StrsAt.other {w w' : World} {b : Nat} {ss : List ByteArray} {row : Option Nat} (h : StrsAt w (some ⟨b, 0, none⟩) ss) (hg : w.grownBy w' row) (hne : row ≠ some b) : StrsAt w' (some ⟨b, 0, none⟩) ss := by
  intro i hi
  obtain ⟨b', o', e, hc⟩ := h i hi
  simp only [Option.some.injEq, Addr.mk.injEq, and_true] at e
  obtain ⟨rfl, rfl⟩ := e
  have hb := hg.block b (lt_of_cell hc) (fun e => hne e.symm)
  refine ⟨b, 0, rfl, ?_⟩
  unfold World.cell? at hc ⊢
  simp only [hb]
  exact hc

/-- what stands at the beginning of round k -/
structure RdSt (w : World) (g : Nat) (ss : List ByteArray) (k : Nat) (ds : List Dm) (a : Option Addr) (c : Nat) (wr : World) : Prop where
  got : rdAll (bytesL (ss.take k)) = some ds
  len : ds.length = k
  box : wr.heap[w.heap.size]? = some (.cells #[.slice a ds.length c] 24 (0, 0))
  bok : wr.heap[w.heap.size + 1]? = some (.cells #[.bool false] 4 (0, 0))
  own : OwnD wr (w.heap.size + 1 + 1 + 1) (.slice a ds.length c) ds
  bel : Below w.heap.size w wr
  str : StrsAt wr (some ⟨g, 0, none⟩) ss
theorem RdSt.below {w : World} {g : Nat} {ss : List ByteArray} {k : Nat} {ds : List Dm} {a : Option Addr} {c : Nat} {wr w' : World} (h : RdSt w g ss k ds a c wr) (hb : Below wr.heap.size wr w') : RdSt w g ss k ds a c w' :=
  ⟨h.got, h.len, blkK hb h.box, blkK hb h.bok, h.own.grown hb, bt0 h.bel hb (Nat.le_refl _), h.str.below hb⟩

set_option maxRecDepth 100000 in
set_option maxHeartbeats 1000000 in
theorem readDamages_some (s : ByteArray) (w : World) (hs : s.size ≤ 1048576) (hne : s.data.toList ≠ []) (hE : Env w) (h20 : ¬ 20 < (cut 59 s.data.toList).length) :
    Calls Tryz.prog 9 #[.string s] w (RetRD w (rdText s.data.toList)) := by
  have hmf : ∀ (fn : Fn) (first cap : Array Value) (w : World), (Instr.makeFunc fn first cap).run Tryz.prog w = .ok (.func fn first cap) w := fun _ _ _ _ => rfl
  have e0 : (s.toList == []) = false := word_ne hne
  have HE := Lib.hid hE
  have HN := Lib.hid (show rdText s.data.toList = rdAll (cut 59 s.data.toList) by rw [rdText, if_neg h20])
  clear hE hne
  go_enter_defers Tryz.func9, Tryz.ntmps9
  go_wp2_with fail
  refine (split_any s 59 _ hs (HE.out.next (ba2 w _ _))).mono ?_
  rintro e w1 ⟨ss, hss, hsl, hsz, rfl, rfl⟩
  have hl20 : ss.length ≤ 20 := by
    have := congrArg List.length hss
    rw [bytesL, List.length_map] at this
    omega
  have hl : ¬ (20 : Int) < (ss.length : Int) := by omega
  rw [← hss] at HN
  have HZ := Lib.hid hsz
  have hr0 : Hid (RdSt w (w.heap.size + 1 + 1) ss 0 [] none 0 ((((w.alloc (.cells #[.slice none 0 0] 24)).alloc (.cells #[.bool false] 4)).alloc (.cells (ss.map Value.string).toArray 9)))) := Lib.hid
    { got := rfl
      len := rfl
      box := (heap3 w _ _ _).1
      bok := (heap3 w _ _ _).2.1
      own := World.ownsRow_nil _ _ _ _
      bel := ba3 w _ _ _
      str := by
        have h := strs_new ((w.alloc (.cells #[.slice none 0 0] 24)).alloc (.cells #[.bool false] 4)) ss 9
        simpa only [World.size_alloc] using h }
  clear hss h20 hsz
  go_wp2_with fail
  go_loopw [6, 7, 19] (fun _ _ i wr => ∃ (k : Nat) (ds : List Dm) (a : Option Addr) (c : Nat), k ≤ ss.length ∧ i = .int .i64 k ∧ RdSt w (w.heap.size + 1 + 1) ss k ds a c wr) (fun _ _ i _ => ss.length - (intOf i).toNat)
  case atStart => exact ⟨0, [], none, 0, Nat.zero_le _, rfl, hr0.out⟩
  case round =>
    clear hr0
    obtain ⟨k, ds, a, c, hk, rfl, hst⟩ := hrel
    have HST := Lib.hid hst
    by_cases hlt : k < ss.length
    · obtain ⟨b1, o1, z, e1, hzk, hb1, hc1⟩ := hst.str.at hlt
      have hzs : z.size ≤ 1048576 := Nat.le_trans (HZ.out z (List.mem_of_getElem? hzk)) hs
      have HK := Lib.hid hzk
      simp only [Option.some.injEq, Addr.mk.injEq, and_true] at e1
      obtain ⟨rfl, rfl⟩ := e1
      rw [Nat.zero_add] at hc1
      clear hst hzk
      go_wp2_with fail
      refine (split_any z 32 _ hzs (HE.out.next HST.out.bel)).mono ?_
      rintro e w2 ⟨ws, hws, hwl, hwz, rfl, rfl⟩
      have hps : Hid (Psr ((wr.alloc (.cells (ws.map Value.string).toArray 9)).alloc (.cells #[.slice (some ⟨wr.heap.size, 0, none⟩) ws.length ws.length] 76)) (wr.heap.size + 1) ws) := Lib.hid (by
        have h2 := strs_new wr ws 9
        refine ⟨some ⟨wr.heap.size, 0, none⟩, ws.length, (heap2 wr _ _).2, Nat.le_refl _, h2.below (ba1 _ _), ?_⟩
        intro ad e
        cases e
        exact Nat.ne_of_lt (Nat.lt_succ_self _))
      have hwz' : Hid (ShortL ws) := Lib.hid (fun b hb => by have := hwz b hb; omega)
      have HS3 := Lib.hid (RdSt.below HST.out (ba2 wr (.cells (ws.map Value.string).toArray 9) (.cells #[.slice (some ⟨wr.heap.size, 0, none⟩) ws.length ws.length] 76)))
      have HE3 : Hid (∀ w', Below wr.heap.size wr w' → Env w') := Lib.hid (fun w' hb => (HE.out.next HST.out.bel).next hb)
      have hbq := ba2 wr (.cells (ws.map Value.string).toArray 9) (.cells #[.slice (some ⟨wr.heap.size, 0, none⟩) ws.length ws.length] 76)
      have HBQ := Lib.hid hbq
      have hlq : wr.heap.size + 1 < ((wr.alloc (.cells (ws.map Value.string).toArray 9)).alloc (.cells #[.slice (some ⟨wr.heap.size, 0, none⟩) ws.length ws.length] 76)).heap.size := by simp
      have hw0 : w.heap.size + 1 + 1 < wr.heap.size := hb1
      have HW := Lib.hid hws
      have hoq : Hid (∀ k, Value.ownBlock (.slice a ds.length c) = some k → some (wr.heap.size + 1) ≠ some k) := Lib.hid (fun k hk e => by
        have := OwnD.hi HST.out.own k hk
        have := Option.some.inj e
        omega)
      clear hwz hwl hbq hws hb1 hc1
      go_wp2_with fail
      generalize ((wr.alloc (.cells (ws.map Value.string).toArray 9)).alloc (.cells #[.slice (some ⟨wr.heap.size, 0, none⟩) ws.length ws.length] 76)) = w3 at *
      obtain ⟨q, hq⟩ : ∃ q, wr.heap.size + 1 = q := ⟨_, rfl⟩
      rw [hq] at hps hlq hoq ⊢
      cases hrd : rdOne (cut 32 z.data.toList) with
      | some d =>
        refine wp_region_once [27, 28, 29, 30] (fun us => _) [spQ q (· = .slice a ds.length c), spQ q (· = .pointer (some ⟨q, 0, none⟩)), spQ q (· = dmV d), spQd q d] (RdQ q w3) (by kernel_rfl) (by kernel_rfl) (Nat.le_of_ble_eq_true rfl) (fun us => by simp [over, List.mapIdx_cons]; exact rfl) (rdQ0 q w3) (fun w => World.grownBy.refl _ _) ?_ ?_
        · refine ⟨?_, ?_, ?_, ?_, trivial⟩
          all_goals (intro us W L hL hst hd; refine ⟨by kernel_rfl, wp_of_leaves (R := fun v w' => _) (fun v w' h => ⟨v, rfl, h⟩) ?_⟩; dsimp only)
          · clear hd
            have hc := (heap_cellR ((gb_cell hst.2 (show w.heap.size ≠ q by omega) (blkLt HS3.out.box)).trans HS3.out.box)).1
            go_simp
            exact ⟨⟨fun h => hst.1 (by simpa using h), hst.2⟩, World.grownBy.refl _ _, rfl⟩
          · clear hd
            go_simp
            exact ⟨⟨fun h => hst.1 (by simpa using h), hst.2⟩, World.grownBy.refl _ _, rfl⟩
          · have d0 : us 28 = .pointer (some ⟨q, 0, none⟩) := (hd ⟨1, .data⟩ (by simp) rfl).2
            clear hd
            obtain rfl := hst.1 hL
            go_simp
            refine (damageP_any q ws w3.drew hps.out hwz'.out (fun w' hb => HE3.out w' (HBQ.out.drew.trans (hb.mono (by omega))))).mono fun e w' ⟨he, hg⟩ => ?_
            rw [HW.out, hrd] at he
            exact ⟨_, he, ⟨fun h => by simp at h, grownBy_trans hst.2 hg⟩, hg, rfl⟩
          · have h2 := (hd ⟨2, .data⟩ (by simp) rfl).1
            have d0 : us 29 = dmV d := (hd ⟨2, .data⟩ (by simp) rfl).2
            clear hd
            unfold dmV at d0
            have hgW := hst.2.size
            go_simp
            exact ⟨⟨fun h => by simp [h2] at h, grownBy_trans hst.2 (gb_below (ba1 _ _))⟩, gb_below (ba1 _ _), W.heap.size, rfl, by omega, push_at _ _⟩
        · intro us W L hL hst hd
          have d0 : us 27 = .slice a ds.length c := hd 0 (by simp)
          have d1 : us 28 = .pointer (some ⟨q, 0, none⟩) := hd 1 (by simp)
          have d2 : us 29 = dmV d := hd 2 (by simp)
          obtain ⟨g, d3, hgq, hgd⟩ : ∃ g, us 30 = .slice (some ⟨g, 0, none⟩) 1 1 ∧ g ≠ q ∧ W.heap[g]? = some (.cells #[.int .i64 d.k, .int .i64 d.r, .int .i64 d.c, .int .i64 d.t, .int .i64 d.w, .int .i64 d.g] 30 (0, 0)) := hd 3 (by simp)
          clear hd
          obtain ⟨i0, hi, y0, y1, y2⟩ := info_parts infoDm
          have hown : OwnD W (w.heap.size + 1 + 1 + 1) (.slice a ds.length c) ds := HS3.out.own.other hst.2 hoq.out
          have HOW := Lib.hid hown
          have HSZ := Lib.hid hst.2
          have hbx := (gb_cell hst.2 (show w.heap.size ≠ q by omega) (blkLt HS3.out.box)).trans HS3.out.box
          have hbk := (gb_cell hst.2 (show w.heap.size + 1 ≠ q by omega) (blkLt HS3.out.bok)).trans HS3.out.bok
          have HGD := Lib.hid (six_at hgd)
          have HLN := Lib.hid (show ds.length ≤ 20 by have := HST.out.len; omega)
          have HWL := Lib.hid (show w.heap.size + 1 + 1 + 1 ≤ W.heap.size by have := HSZ.out.size; omega)
          clear hst hown hgd
          rw [d0, d1, d2, d3]
          clear d0 d1 d2 d3 hL
          refine wpList_append_own _ rfl _ _ 24 rfl (w.heap.size + 1 + 1 + 1) 30 i0 (.agg #[.int .i64 0, .int .i64 0, .int .i64 0, .int .i64 0, .int .i64 0, .int .i64 0]) 6 48 Tryz.underlying24 hi y0 y1 y2 rfl (by decide) _ _ _ rfl HOW.out ⟨g, 0, none⟩ 1 1 (dmVs d) rfl rfl HGD.out (six_one _) (by have := HLN.out; unfold maxLen; omega) (by have := HLN.out; omega) HWL.out ?_
          intro v' w9 hown3 hgrow3' _
          have hgrow3 : W.grownBy w9 (Value.ownBlock (.slice a ds.length c)) := hgrow3'
          have ho9 := OwnD.snoc hown3
          have HO9 := Lib.hid ho9
          obtain ⟨a9, c9, e9⟩ := ho9.read
          have hl9 : (ds ++ [d]).length = ds.length + 1 := by simp
          rw [e9] at HO9 ⊢
          have hob : ∀ k', Value.ownBlock (.slice a ds.length c) = some k' → w.heap.size + 1 + 1 < k' := fun k' hk' => OwnD.at HOW.out k' hk'
          have hbx9 := (hgrow3.block w.heap.size (blkLt hbx) (fun e => by have := hob _ e.symm; omega)).trans hbx
          have hbk9 := (hgrow3.block (w.heap.size + 1) (blkLt hbk) (fun e => by have := hob _ e.symm; omega)).trans hbk
          have HB9 := Lib.hid ((HS3.out.bel.trans ((below_gb HSZ.out (Nat.le_of_lt hlq)).mono (by omega))).trans (below_of_grownBy hgrow3 (B := w.heap.size) (by have := HWL.out; omega) (fun k' hk' => by have := hob k' hk'; omega)))
          have HSW := Lib.hid (show StrsAt w9 (some ⟨w.heap.size + 1 + 1, 0, none⟩) ss from (HS3.out.str.other HSZ.out (fun e => by have := Option.some.inj e; omega)).other hgrow3 (fun e => by have := hob _ e; omega))
          have HX9 := Lib.hid hbx9
          have HK9 := Lib.hid hbk9
          obtain ⟨hc9, hf9⟩ := heap_cellR hbx9
          clear hown3 hgrow3 hgrow3' hob hi y0 y1 y2 hbx hbk e9 ho9 hbx9 hbk9
          go_wp2_with fail
          refine ⟨⟨k + 1, ds ++ [d], a9, c9, by omega, by go_num, { got := rdAll_step HK.out HST.out.got hrd, len := by simp [HST.out.len], box := by rw [hl9]; exact src_set HX9.out 0 _, bok := ((grownBy_set _ _ _ _).block _ (blkLt HK9.out) (fun e => by have := Option.some.inj e; omega)).trans HK9.out, own := OwnD.src HO9.out (by omega) (grownBy_set _ _ _ _), bel := HB9.out.setCell (Nat.le_refl _) _, str := HSW.out.other (grownBy_set _ _ _ _) (fun e => by have := Option.some.inj e; omega) }⟩, by simp [intOf]; omega⟩
      | none =>
        refine wp_region_once [27, 28, 29, 30] (fun us => _) [spQ q (· = .slice a ds.length c), spQ q (· = .pointer (some ⟨q, 0, none⟩)), spQ q (fun _ => False), spQ q (fun _ => False)] (RdQ q w3) (by kernel_rfl) (by kernel_rfl) (Nat.le_of_ble_eq_true rfl) (fun us => by simp [over, List.mapIdx_cons]; exact rfl) (rdQ0 q w3) (fun w => World.grownBy.refl _ _) ?_ ?_
        · refine ⟨?_, ?_, ?_, ?_, trivial⟩
          · intro us W L hL hst hd; refine ⟨by kernel_rfl, wp_of_leaves (R := fun v w' => _) (fun v w' h => ⟨v, rfl, h⟩) ?_⟩; dsimp only
            clear hd
            have hc := (heap_cellR ((gb_cell hst.2 (show w.heap.size ≠ q by omega) (blkLt HS3.out.box)).trans HS3.out.box)).1
            go_simp
            exact ⟨⟨fun h => hst.1 (by simpa using h), hst.2⟩, World.grownBy.refl _ _, rfl⟩
          · intro us W L hL hst hd; refine ⟨by kernel_rfl, wp_of_leaves (R := fun v w' => _) (fun v w' h => ⟨v, rfl, h⟩) ?_⟩; dsimp only
            clear hd
            go_simp
            exact ⟨⟨fun h => hst.1 (by simpa using h), hst.2⟩, World.grownBy.refl _ _, rfl⟩
          · intro us W L hL hst hd
            have d0 : us 28 = .pointer (some ⟨q, 0, none⟩) := (hd ⟨1, .data⟩ (by simp) rfl).2
            clear hd
            obtain rfl := hst.1 hL
            refine ⟨by kernel_rfl, wp_of_dies (R := fun ch w' => (∃ v, ch = stopCh v) ∧ w3.grownBy w' (some q)) ?_ ?_⟩
            · rintro ch w' ⟨⟨v, rfl⟩, hg⟩
              have HR := Lib.hid (HN.out.trans (rdAll_none HK.out hrd))
              have hbx := (gb_cell hg (show w.heap.size ≠ q by omega) (blkLt HS3.out.box)).trans HS3.out.box
              have hbk := (gb_cell hg (show w.heap.size + 1 ≠ q by omega) (blkLt HS3.out.bok)).trans HS3.out.bok
              have hcx := heap_cellR hbx
              have hck := heap_cellR hbk
              have HBW := Lib.hid (HS3.out.bel.trans ((below_gb hg (Nat.le_of_lt hlq)).mono (by omega)))
              change Leaves _ _ _ _ _ _ _
              refine leaves_cons (f := 30) (args := #[.pointer (some ⟨w.heap.size, 0, none⟩), .pointer (some ⟨w.heap.size + 1, 0, none⟩)]) (by simp) (by simp [go_sem]) ?_
              refine (rdClo_panicking w.heap.size _ v _ _ _ (by rw [hcx.1]; rfl) (hcx.2 0) (by rw [hck.1]; rfl) (hck.2 0)).mono ?_
              rintro e u' w'' ⟨rfl, rfl, rfl⟩
              rw [HR.out]
              refine ⟨.tuple #[.slice none 0 0, .bool false], ?_, ?_, rfl⟩
              · simp [results, Tryz.results9, go_sem, hcx.1, hck.1]
              · exact (HBW.out.setCell (Nat.le_refl _) _).setCell (Nat.le_succ _) _
            · dsimp only
              go_simp
              refine (damageP_any q ws w3.drew hps.out hwz'.out (fun w' hb => HE3.out w' (HBQ.out.drew.trans (hb.mono (by omega))))).mono fun e w' ⟨he, hg⟩ => ?_
              rw [HW.out, hrd] at he
              obtain ⟨v, he⟩ := he
              exact ⟨_, he, ⟨v, rfl⟩, grownBy_trans hst.2 hg⟩
          · intro us W L hL hst hd
            exact ((hd ⟨2, .data⟩ (by simp) rfl).2 : False).elim
        · intro us W L hL hst hd
          exact ((hd 2 (by simp)) : False).elim
    · obtain rfl : k = ss.length := by omega
      obtain ⟨hc1, hf1⟩ := heap_cellR hst.box
      obtain ⟨hc2, hf2⟩ := heap_cellR hst.bok
      clear hst
      go_wp2_with fail
      refine leaves_cons (f := 30) (args := #[.pointer (some ⟨w.heap.size, 0, none⟩), .pointer (some ⟨w.heap.size + 1, 0, none⟩)]) (by simp) (by simp [go_sem]) ?_
      refine (rdClo_idle w.heap.size (w.heap.size + 1) _).mono ?_
      rintro e u' w'' ⟨rfl, rfl, rfl⟩
      rw [HN.out, rdAll_end (Nat.le_refl _) HST.out.got]
      refine ⟨.tuple #[.slice a ds.length c, .bool true], by simp [results, Tryz.results9, go_sem, hc1, hc2], ?_, a, c, rfl, ?_⟩
      · exact (HST.out.bel.setCell (Nat.le_refl _) _).setCell (Nat.le_succ _) _
      · exact OwnD.weak (OwnD.src (OwnD.src HST.out.own (by omega) (grownBy_set _ _ _ _)) (by omega) (grownBy_set _ _ _ _)) (by omega)

theorem rdS_some {s : ByteArray} (h : s.data.toList ≠ []) : rdS s = rdText s.data.toList := by rw [rdS, if_neg h]
/-- ReadDamages, whatever the text -/
theorem readDamages_any (s : ByteArray) (w : World) (hs : s.size ≤ 1048576) (hE : Env w) :
    Calls Tryz.prog 9 #[.string s] w (RetRD w (rdS s)) := by
  by_cases h : s.data.toList = []
  · have e : s = ⟨#[]⟩ := by apply ByteArray.ext; apply Array.toList_inj.1; exact h
    subst e
    exact readDamages_empty w
  · rw [rdS_some h]
    by_cases h20 : 20 < (cut 59 s.data.toList).length
    · exact readDamages_many s w hs h hE h20
    · exact readDamages_some s w hs h hE h20

end Go.Proofs.YtpilkgcghlfdmaaGreatDoor
