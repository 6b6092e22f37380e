import Derived.Test.YtkmfgchbfchdbaaDoorVJnA
import Derived.Test.YtkmfgchbfchdbaaDoorVRdDec
import Derived.Test.YtkmfgchbfchdbaaDoorVRec0
import Derived.Test.YtkmfgchbfchdbaaDoorVSpl
import Derived.Lib.SlSplitV
namespace Go.Proofs.YtkmfgchbfchdbaaDoor
open Go.RowKit

/-- bytes as numbers -/
def byInts (l : List UInt8) : List Int := l.map fun x => (x.toNat : Int)
theorem byInts_of (l : List UInt8) : Lib.bytesOf (byInts l) = l := by
  unfold Lib.bytesOf byInts
  rw [List.map_map]
  have : ((fun n : Int => UInt8.ofNat n.toNat) ∘ fun x : UInt8 => (x.toNat : Int)) = id := by funext x; simp
  rw [this, List.map_id]
theorem byInts_len (l : List UInt8) : (byInts l).length = l.length := by simp [byInts]
theorem byInts_range (l : List UInt8) : ∀ x ∈ byInts l, 0 ≤ x ∧ x < 256 := by
  intro x hx
  simp only [byInts, List.mem_map] at hx
  obtain ⟨y, _, rfl⟩ := hx
  have := y.toNat_lt
  omega
theorem byInts_at {l : List UInt8} {i : Nat} (h : i < l.length) : (byInts l).getD i 0 = ((l[i]).toNat : Int) := by
  rw [List.getD_eq_getElem?_getD]; simp [byInts, h]
theorem BysAt.cells {w : World} {b o : Nat} {l : List UInt8} (h : BysAt w (some ⟨b, o, none⟩) l) : ∀ i, i < l.length → w.cell? ⟨b, o + i, none⟩ = some (.int .u8 ((byInts l).getD i 0)) := fun i hi => by
  obtain ⟨b', o', e, hc⟩ := h i l[i] (List.getElem?_eq_getElem hi)
  simp only [Option.some.injEq, Addr.mk.injEq, and_true] at e
  obtain ⟨rfl, rfl⟩ := e
  rw [hc, byInts_at hi]
theorem BysAt.take {w : World} {a : Option Addr} {l : List UInt8} (h : BysAt w a l) {p t : List UInt8} (e : l = p ++ t) : BysAt w a p := fun i x hx => h i x (by
  rw [e, List.getElem?_append_left (List.getElem?_eq_some_iff.1 hx).1]; exact hx)

theorem indexByte_line : ∀ l : List UInt8, Lib.indexByte l 10 = match lineOf l with | none => -1 | some p => (p.length : Int)
  | [] => rfl
  | x :: r => by
    have ih := indexByte_line r
    rw [Lib.indexByte, lineOf]
    by_cases hx : x = 10
    · subst hx; simp
    · have : (x == 10) = false := by simpa using hx
      rw [this, if_neg hx]
      simp only [Bool.false_eq_true, if_false]
      rw [ih]
      cases lineOf r with
      | none => rfl
      | some p =>
        have : (((p.length : Nat) : Int) == -1) = false := by rw [beq_eq_false_iff_ne]; omega
        simp only [this, Bool.false_eq_true, if_false, Option.map_some, List.length_cons]
        simp

theorem splitV_plain (sep : List UInt8) (save b : Nat) : ∀ (k o cap : Nat) (l : List UInt8), ∀ v ∈ Lib.splitV sep save k ⟨b, o, none⟩ cap l, ∃ o' n c, v = .slice (some ⟨b, o', none⟩) n c
  | 0, o, cap, l, v, hv => by
    simp only [Lib.splitV, List.mem_singleton] at hv
    exact ⟨_, _, _, hv⟩
  | k + 1, o, cap, l, v, hv => by
    unfold Lib.splitV at hv
    split at hv
    · simp only [List.mem_singleton] at hv
      exact ⟨_, _, _, hv⟩
    · rcases List.mem_cons.1 hv with h | h
      · exact ⟨_, _, _, h⟩
      · have : ∃ o2, Lib.tailAddr ⟨b, o, none⟩ cap ((Lib.index l sep).toNat + sep.length) = ⟨b, o2, none⟩ := by
          unfold Lib.tailAddr
          split
          · exact ⟨_, rfl⟩
          · exact ⟨o + ((Lib.index l sep).toNat + sep.length), by rw [Addr.add_lit]⟩
        obtain ⟨o2, e⟩ := this
        rw [e] at h
        exact splitV_plain sep save b k o2 _ _ v h

/-- the pieces of a line -/
def PiecesAt (w : World) (b : Nat) (vs : List Value) (ps : List (List UInt8)) : Prop :=
  vs.length = ps.length ∧ ∀ (j : Nat) (p : List UInt8), ps[j]? = some p → ∃ o c, vs[j]? = some (Value.slice (some ⟨b, o, none⟩) p.length c) ∧ BysAt w (some ⟨b, o, none⟩) p
theorem PiecesAt.below {w w' : World} {b : Nat} {vs : List Value} {ps : List (List UInt8)} (h : PiecesAt w b vs ps) (hb : Below w.heap.size w w') : PiecesAt w' b vs ps :=
  ⟨h.1, fun j p hp => by obtain ⟨o, c, e, ha⟩ := h.2 j p hp; exact ⟨o, c, e, ha.below hb⟩⟩

theorem bytesSplit_any (b o cp b2 : Nat) (c : UInt8) (l : List UInt8) (w : World) (hE : Env w) (h : BysAt w (some ⟨b, o, none⟩) l) (h2 : BysAt w (some ⟨b2, 0, none⟩) [c]) (hl : l.length ≤ 1000000000) (hcp : l.length ≤ cp) (hcp2 : cp ≤ maxLen) :
    Calls Tryd.prog 67 #[.slice (some ⟨b, o, none⟩) l.length cp, .slice (some ⟨b2, 0, none⟩) 1 1] w fun e w' => ∃ vs : List Value, PiecesAt w' b vs (cut c l) ∧ e = .returned (.slice (some ⟨w.heap.size, 0, none⟩) vs.length vs.length) ∧ w'.heap[w.heap.size]? = some (.cells vs.toArray 28 (0, 0)) ∧ Below w.heap.size w w' := by
  obtain ⟨m, hm⟩ := hE.mx
  unfold maxLen at hcp2
  have ec : [c] = Lib.bytesOf (byInts [c]) := (byInts_of [c]).symm
  refine (Tryd.bytes_Split ⟨b, o, none⟩ ⟨b2, 0, none⟩ l.length cp 1 1 (byInts l) (byInts [c]) m w (byInts_len l) rfl (byInts_range l) (byInts_range [c]) (fun i hi => by rw [Addr.add_lit]; exact h.cells i hi) (fun i hi => by rw [Addr.add_lit]; exact h2.cells i hi) hcp (by omega) (by omega) (by omega) (Nat.le_refl 1) hm).mono ?_
  rintro e w' ⟨he, q, hw⟩
  rw [byInts_of, byInts_of] at he hw
  obtain ⟨vs, hvs⟩ : ∃ vs, Lib.splitV [c] 0 (Lib.count l [c]) ⟨b, o, none⟩ cp l = vs := ⟨_, rfl⟩
  have hk : Lib.splitK [c] 0 (Lib.count l [c]) l = cut c l := splitK_cut c l
  have hlen : vs.length = (cut c l).length := by rw [← hvs, Lib.splitV_length, hk]
  have hlen2 : (cut c l).length = Lib.count l [c] + 1 := by
    have := Lib.splitB_all ⟨#[c]⟩ (Nat.le_refl 1) 0 (Lib.count l [c]) ⟨l.toArray⟩ rfl
    have d := congrArg List.length (Lib.splitB_data ⟨#[c]⟩ 0 (Lib.count l [c]) ⟨l.toArray⟩)
    rw [List.length_map, this] at d
    have hk2 : Lib.splitK [c] 0 (Lib.count l [c]) l = Lib.splitK (ByteArray.data ⟨#[c]⟩).toList 0 (Lib.count l [c]) (ByteArray.data ⟨l.toArray⟩).toList := by simp
    rw [← hk, hk2]; exact d.symm
  have hbel : Below w.heap.size w w' := by rw [hw]; exact (ba1 w _).trans (below_drewN _ _)
  refine ⟨vs, ⟨hlen, fun j p hp => ?_⟩, by rw [hlen, hlen2]; exact he, ?_, hbel⟩
  · have hj : j < vs.length := by rw [hlen]; exact (List.getElem?_eq_some_iff.1 hp).1
    have hv : vs[j]? = some vs[j] := List.getElem?_eq_getElem hj
    obtain ⟨o', n', c', ev⟩ := splitV_plain [c] 0 b _ o cp l vs[j] (by rw [hvs]; exact List.getElem_mem hj)
    obtain ⟨a', off, len, c2, e1, e2, e3, e4, e5⟩ := Lib.splitV_spec [c] 0 (by simp) (by simp) (Lib.count l [c]) ⟨b, o, none⟩ cp l hcp j vs[j] (by rw [hvs]; exact hv)
    rw [hk, hp] at e4
    have e4 := Option.some.inj e4
    rw [ev] at e1
    simp only [Value.slice.injEq, Option.some.injEq] at e1
    obtain ⟨rfl, rfl, rfl⟩ := e1
    have hpl : p.length = n' := by rw [e4]; simp; omega
    refine ⟨o', c', by rw [hv, ev, hpl], fun i x hx => ⟨b, o', rfl, ?_⟩⟩
    have hi : i < p.length := (List.getElem?_eq_some_iff.1 hx).1
    have h5 := e5 i (by omega)
    rw [Addr.add_lit, Addr.add_lit] at h5
    have h6 := Addr.mk.inj h5
    rw [h6.2.1]
    obtain ⟨b3, o3, e, hc⟩ := h (off + i) x (by
      rw [e4, List.getElem?_take, if_pos (by omega), List.getElem?_drop] at hx; exact hx)
    simp only [Option.some.injEq, Addr.mk.injEq, and_true] at e
    obtain ⟨rfl, rfl⟩ := e
    rw [hbel.cell (p := ⟨b, o + (off + i), none⟩) (lt_of_cell hc)]
    exact hc
  · rw [hw, hvs]
    exact blk (below_drewN (B := w.heap.size + 1) _ q) (push_at w _) (Nat.lt_succ_self _)


theorem bys_one {w : World} {g : Nat} {x : UInt8} (h : w.heap[g]? = some (.cells #[.int .u8 x.toNat] 5 (0, 0))) : BysAt w (some ⟨g, 0, none⟩) [x] := by
  intro i y hy
  have hi := (List.getElem?_eq_some_iff.1 hy).1
  obtain rfl : i = 0 := by simpa using hi
  simp at hy
  subst hy
  exact ⟨g, 0, rfl, by rw [(heap_cellR h).1]; rfl⟩
/-- what readLine hands back -/
def RetRcO (w : World) (o : Option Rc) (e : Ending) (w' : World) : Prop := ∃ k i, e = .returned (.tuple #[.agg #[.int .i64 k, .int .i64 i], .bool o.isSome]) ∧ (∀ r, o = some r → k = r.k ∧ i = r.n) ∧ Below w.heap.size w w'
theorem retRcO_no {w w' : World} {o : Option Rc} {k i : Int} (h : o = none) (hb : Below w.heap.size w w') : RetRcO w o (.returned (.tuple #[.agg #[.int .i64 k, .int .i64 i], .bool false])) w' := by
  subst h; exact ⟨k, i, rfl, (fun r e => by cases e), hb⟩
theorem readJ_none1 {n : Nat} {s : Int} {l : List UInt8} (h : lineOf l = none) : readJ n s l = none := by rw [readJ, h]
theorem readJ_none2 {n : Nat} {s : Int} {l p : List UInt8} (h : lineOf l = some p) (h4 : (cut 32 p).length ≠ 4) : readJ n s l = none := by
  rw [readJ, h]
  simp only []
  split
  · rename_i a b c d he; rw [he] at h4; simp at h4
  · rfl
theorem cut4 {p : List UInt8} (h4 : (cut 32 p).length = 4) : ∃ a b c d, cut 32 p = [a, b, c, d] := by
  cases h : cut 32 p with
  | nil => rw [h] at h4; simp at h4
  | cons a t => cases t with
    | nil => rw [h] at h4; simp at h4
    | cons b t => cases t with
      | nil => rw [h] at h4; simp at h4
      | cons c t => cases t with
        | nil => rw [h] at h4; simp at h4
        | cons d t => cases t with
          | nil => exact ⟨a, b, c, d, rfl⟩
          | cons e t => rw [h] at h4; simp at h4
theorem readJ_none3 {n : Nat} {s : Int} {l p a b c d : List UInt8} (h : lineOf l = some p) (h4 : cut 32 p = [a, b, c, d]) (hc : rdec c = none) : readJ n s l = none := by
  rw [readJ, h]; simp only [h4, hc]
theorem readJ_some4 {n : Nat} {s : Int} {l p a b c d : List UInt8} {i : Int} (h : lineOf l = some p) (h4 : cut 32 p = [a, b, c, d]) (hc : rdec c = some i) :
    readJ n s l = if kindJ b ≠ 0 ∧ Rc.ok ⟨kindJ b, i⟩ = true ∧ (lineJ n s ⟨kindJ b, i⟩ ++ [10]).isPrefixOf l = true then some ⟨kindJ b, i⟩ else none := by
  rw [readJ, h]; simp only [h4, hc]

theorem hasPrefix_any {w : World} {b c base c2 : Nat} {a2 : Option Addr} {l m : List UInt8} (h : BysAt w (some ⟨b, 0, none⟩) l) (hc : l.length ≤ c) (h2 : OwnB w base (.slice a2 m.length c2) m) :
    Calls Tryd.prog 70 #[.slice (some ⟨b, 0, none⟩) l.length c, .slice a2 m.length c2] w fun e w' => e = .returned (.bool (m.isPrefixOf l)) ∧ w' = w := by
  have e : m.isPrefixOf l = Lib.hasPrefix (Lib.bytesOf (byInts l)) (Lib.bytesOf (byInts m)) := by rw [byInts_of, byInts_of]; rfl
  rw [e]
  obtain ⟨a3, c3, e3, hb, _⟩ := h2.read
  obtain ⟨rfl, -, rfl⟩ := Value.slice.inj e3
  cases a2 with
  | some ad =>
    rcases h2.2 with ⟨e4, _⟩ | ⟨g, cap, cur, e4, _⟩
    · cases e4
    · cases e4
      exact Tryd.bytes_HasPrefix b 0 l.length c g 0 m.length c2 (byInts l) (byInts m) w (byInts_len l) (byInts_len m) hc (fun i hi => h.cells i hi) (fun i hi => hb.cells i hi)
  | none =>
    have h0 := h2.none_len
    obtain rfl : m = [] := List.eq_nil_of_length_eq_zero h0.1
    refine (Tryd.bytes_HasPrefix_e2 (some ⟨b, 0, none⟩) none l.length c c2 w).mono fun e w' ⟨he, hw⟩ => ⟨he.trans ?_, hw⟩
    simp [Lib.hasPrefix, Lib.bytesOf, byInts]
/-- no kind below kk has the word and makes a record -/
def NoKind (p : List UInt8) (i : Int) (kk : Int) : Prop := ∀ m, 1 ≤ m → m < kk → ¬ (p = wordJ m ∧ Rc.ok ⟨m, i⟩ = true)
theorem NoKind.step {p : List UInt8} {i kk : Int} (h : NoKind p i kk) (hk : ¬ (p = wordJ kk ∧ Rc.ok ⟨kk, i⟩ = true)) : NoKind p i (kk + 1) := fun m h1 h2 => by
  by_cases e : m = kk
  · subst e; exact hk
  · exact h m h1 (by omega)
theorem NoKind.no {p : List UInt8} {i : Int} (h : NoKind p i 5) : ¬ (kindJ p ≠ 0 ∧ Rc.ok ⟨kindJ p, i⟩ = true) := fun ⟨h0, h1⟩ => by
  obtain ⟨e, h2, h3⟩ := word_kindJ h0
  exact h (kindJ p) h2 (by omega) ⟨e.symm, h1⟩

set_option maxRecDepth 100000 in
set_option maxHeartbeats 1000000 in
theorem readLine_any (J n : Nat) (s : Int) (v : Value) (b c : Nat) (l : List UInt8) (w : World) (hj : JnAt w J v n s) (hr : BysAt w (some ⟨b, 0, none⟩) l) (hl : l.length ≤ 100000) (hlc : l.length ≤ c) (hcm : c ≤ maxLen) (hn : n < 1000) (hs : 0 ≤ s ∧ s < 65521) (hE : Env w) :
    Calls Tryd.prog 53 #[.pointer (some ⟨J, 0, none⟩), .slice (some ⟨b, 0, none⟩) l.length c] w (RetRcO w (readJ n s l)) := by
  have HJ := Lib.hid hj
  have HR := Lib.hid hr
  have HE := Lib.hid hE
  have hix := indexByte_line l
  clear hj hr hE
  go_enter Tryd.func53, Tryd.ntmps53
  go_wp2_with fail
  have HB0 := Lib.hid (ba1 w (.cells #[.int .i64 0, .int .i64 0] 35 (0, 0)))
  have HBX := Lib.hid (push_at w (.cells #[.int .i64 0, .int .i64 0] 35 (0, 0)))
  refine (Tryd.bytes_IndexByte b 0 l.length c (byInts l) 10 _ (byInts_len l) (fun i hi => (HR.out.below HB0.out).cells i hi)).mono ?_
  rintro e w1 ⟨rfl, rfl⟩
  rw [byInts_of, show ((10 : Int).toNat.toUInt8) = 10 from rfl, hix]
  cases hp : lineOf l with
  | none =>
    have HN := Lib.hid (readJ_none1 (n := n) (s := s) hp)
    obtain ⟨hc0, hf0⟩ := heap_cellR HBX.out
    clear hix hp
    go_wp2_with fail
    refine bodyPost_ret (v := .tuple #[.agg #[.int .i64 0, .int .i64 0], .bool false]) (by simp [results, Tryd.results53, go_sem, hc0]) rfl (retRcO_no HN.out ?_)
    exact HB0.out
  | some p =>
    have HP := Lib.hid hp
    obtain ⟨t, ht⟩ : ∃ t, l = p ++ 10 :: t := (lineOf_some l p hp).2
    have hpl : p.length < l.length := by rw [ht]; simp
    have HRP := Lib.hid (HR.out.take ht)
    clear hix hp ht
    simp only []
    go_wp2_with fail
    have HB1 := Lib.hid (ba2 w (.cells #[.int .i64 0, .int .i64 0] 35 (0, 0)) (.cells #[.int .u8 32] 5 (0, 0)))
    refine (bytesSplit_any b 0 p.length (w.heap.size + 1) 32 p _ (HE.out.next HB1.out) (HRP.out.below HB1.out) (bys_one (heap2 w _ _).2) (by omega) (Nat.le_refl _) (by omega)).mono ?_
    rintro e w2 ⟨vs, hps, rfl, hvs, hb2⟩
    have HB2 := Lib.hid (bt0 HB1.out hb2 (Nat.le_refl _))
    have HX2 := Lib.hid (blkK hb2 (heap2 w _ _).1)
    have HVS := Lib.hid hvs
    have HPS := Lib.hid hps
    have hlen := hps.1
    have hsz2 : w.heap.size + 1 + 1 < w2.heap.size := by have := blkLt hvs; simpa using this
    simp only [World.size_alloc] at HVS ⊢
    clear hps hvs hb2 HB1 HB0 HBX
    by_cases h4 : vs.length = 4
    · rw [h4]
      obtain ⟨p0, p1, p2, p3, hcut⟩ := cut4 (hlen.symm.trans h4)
      obtain ⟨o1, c1, hv1, hp1⟩ := HPS.out.2 1 p1 (by rw [hcut]; rfl)
      obtain ⟨o2, c2, hv2, hp2⟩ := HPS.out.2 2 p2 (by rw [hcut]; rfl)
      have hl1 : p1.length ≤ p.length := (cut_len 32 p).2 p1 (by rw [hcut]; simp)
      have hl2 : p2.length ≤ p.length := (cut_len 32 p).2 p2 (by rw [hcut]; simp)
      obtain ⟨hcv, hfv⟩ := heap_cellR HVS.out
      have hw2 : w2.cell? ⟨w.heap.size + 1 + 1, 2, none⟩ = some (.slice (some ⟨b, o2, none⟩) p2.length c2) := by rw [hcv]; simpa using hv2
      have hcn := conv_at (c := c2) hp2
      have HP1 := Lib.hid hp1
      have HCUT := Lib.hid hcut
      have HV1 := Lib.hid hv1
      clear hlen hcv hfv hv1 hv2 hp1 hp2 hcut
      go_wp2_with fail
      refine (readDecimal_any ⟨p2.toArray⟩ w2 (by show p2.length ≤ _; omega) (HE.out.next HB2.out)).mono ?_
      rintro e w3 ⟨v3, rfl, hv3, hb3⟩
      change ∀ n, rdec p2 = some n → v3 = n at hv3
      have HB3 := Lib.hid (bt0 HB2.out hb3 (Nat.le_refl _))
      have HX3 := Lib.hid (blkK hb3 HX2.out)
      have HVS3 := Lib.hid (blkK hb3 HVS.out)
      have HP1b := Lib.hid (HP1.out.below hb3)
      have hsz3 : w2.heap.size ≤ w3.heap.size := hb3.size
      clear hb3 hcn hw2 HX2
      cases hd : rdec p2 with
      | none =>
        have HN := Lib.hid (readJ_none3 (n := n) (s := s) HP.out HCUT.out hd)
        simp only [Option.isSome]
        clear hd hv3
        obtain ⟨hc0, hf0⟩ := heap_cellR HX3.out
        go_wp2_with fail
        refine bodyPost_ret (v := .tuple #[.agg #[.int .i64 0, .int .i64 0], .bool false]) (by simp [results, Tryd.results53, go_sem, hc0]) rfl (retRcO_no HN.out ?_)
        iterate 2 (refine Below.setCell ?_ (by dsimp only; omega) _)
        exact HB3.out
      | some i =>
        have HN := Lib.hid (readJ_some4 (n := n) (s := s) HP.out HCUT.out hd)
        obtain rfl : v3 = i := hv3 i hd
        simp only [Option.isSome]
        clear hd hv3
        go_wp2_with fail
        have HJ3 := Lib.hid (blkK HB3.out HJ.out)
        have HR3 := Lib.hid (HR.out.below HB3.out)
        have HE3 := Lib.hid (HE.out.next HB3.out)
        have hJ3 := blkLt HJ3.out
        have hz3 : w.heap.size ≤ w3.heap.size := HB3.out.size
        have hx3 := blkLt HX3.out
        clear hcm hpl HRP
        go_loopw [10, 11] (fun q _ wr => ∃ kk : Int, 1 ≤ kk ∧ kk ≤ 5 ∧ q = .int .i64 kk ∧ NoKind p1 v3 kk ∧ Below w3.heap.size w3 wr) (fun q _ _ => 5 - (intOf q).toNat)
        case atStart => exact ⟨1, by omega, by omega, rfl, fun m h1 h2 => by omega, Below.refl _ _⟩
        case round =>
          obtain ⟨kk, hk1, hk5, rfl, hno, hbr⟩ := hrel
          have HNO := Lib.hid hno
          have HBR := Lib.hid hbr
          have hzr := hbr.size
          clear hno hbr
          by_cases hk : kk ≤ 4
          · have HBW := Lib.hid (bt0 HBR.out (ba1 wr (.cells #[.int .i64 kk, .int .i64 v3] 35 (0, 0))) (Nat.le_refl _))
            have hvw := (heap_cellR (blkK HBW.out HVS3.out)).1
            have hv1 := hvw 1
            have hvl := blkLt (blkK HBW.out HVS3.out)
            rw [show vs.toArray[1]? = some (Value.slice (some ⟨b, o1, none⟩) p1.length c1) by simpa using HV1.out] at hv1
            have hbx := push_at wr (.cells #[.int .i64 kk, .int .i64 v3] 35 (0, 0))
            have HBX := Lib.hid hbx
            have hxc := (heap_cellR hbx).1
            have hxl := blkLt hbx
            have HPW := Lib.hid (HP1b.out.below HBW.out)
            clear hvw hbx
            go_wp2_with fail
            generalize wr.alloc (.cells #[.int .i64 kk, .int .i64 v3] 35 (0, 0)) = W at *
            have hcv : ∀ sx : Ext W, (convert 28 9 (.slice (some ⟨b, o1, none⟩) p1.length c1)).run Tryd.prog sx.w = .ok (.string ⟨p1.toArray⟩) sx.w := fun sx => conv_at (HPW.out.below sx.below)
            by_cases hm : p1 = wordJ kk ∧ isRecB kk v3 = true
            · obtain ⟨hm1, hm2⟩ := hm
              have h1 : (p1 == (wordJB kk).toList) = true := by rw [beq_iff_eq, ByteArray.toList_eq, wordJB_list]; exact hm1
              have HM := Lib.hid hm1
              clear hm1
              refine wp_region_ext (by kernel_rfl) (by kernel_rfl) ?_
              repeat (go_big_quiet_step (first | (go_at_call 69; go_must (apply calls_ext; apply recordWord_any <;> omega)) | (go_at_call 15; go_must (apply calls_ext; apply isRecord_val; assumption))))
              refine wpQuiet_nil ?_
              rintro _ ⟨sx, rfl⟩
              have HSX := Lib.hid (bt0 HBW.out sx.below (Nat.le_refl _))
              have HJX := Lib.hid (blkK HSX.out HJ3.out)
              have HXX := Lib.hid (blkK sx.below HBX.out)
              have hsl : W.heap.size ≤ sx.w.heap.size := sx.below.size
              have HOK := Lib.hid (show Rc.ok ⟨kk, v3⟩ = true from hm2)
              clear h1 hm2 hcv
              go_wp2_with fail
              refine (line_any J n s v ⟨kk, v3⟩ _ HJX.out HOK.out hn hs (HE3.out.next HSX.out).tab).mono ?_
              rintro e w6 ⟨a6, c6, l6, he6, rfl, ho6, hb6⟩
              have HB6 := Lib.hid (bt0 HSX.out hb6 (Nat.le_refl _))
              have HX6 := Lib.hid (blkK hb6 HXX.out)
              have HX0 := Lib.hid (blkK HB6.out HX3.out)
              have HL6 := Lib.hid he6
              have HPF : Hid (∀ W', Below w6.heap.size w6 W' → Calls Tryd.prog 70 #[.slice (some ⟨b, 0, none⟩) l.length c, .slice a6 l6.length c6] W' fun e w' => e = .returned (.bool (l6.isPrefixOf l)) ∧ w' = W') := Lib.hid (fun W' hb => hasPrefix_any ((HR3.out.below HB6.out).below hb) hlc (ho6.grown hb))
              have hx6 := blkLt HX6.out
              have hx0 := blkLt HX0.out
              clear he6 ho6 hb6 HXX HJX
              go_wp2_with fail
              obtain ⟨hc6, hf6⟩ := heap_cellR HX6.out
              obtain ⟨hc0, hf0⟩ := heap_cellR HX0.out
              have hne : wr.heap.size ≠ w.heap.size := by omega
              refine wp_region_rt (Keep := KB) [65, 66, 67, 68] (fun us => _)
                [spE (.agg #[.int .i64 kk, .int .i64 v3]),
                 spE (.slice (some ⟨b, 0, none⟩) l.length c),
                 spE (.slice a6 l6.length c6),
                 spE (.bool (l6.isPrefixOf l))]
                (StX w6) (by kernel_rfl) (by kernel_rfl) (Nat.le_of_ble_eq_true rfl) (fun us => by simp [over, List.mapIdx_cons]; exact rfl) (stX0 _) kbr ?_ ?_
              · refine ⟨?_, ?_, ?_, ?_, trivial⟩
                all_goals (intro us wx hst hd; rw [if_pos (by kernel_rfl)]; dsimp only)
                · clear hd
                  have hq6 := boxB hst hc6 hx6
                  go_simp
                  exact kb_same hst rfl
                · clear hd
                  go_simp
                  exact kb_same hst rfl
                · clear hd
                  go_simp
                  exact kb_same hst rfl
                · have d66 : us 66 = (.slice (some ⟨b, 0, none⟩) l.length c) := hd ⟨1, .data⟩ (by simp) rfl
                  have d67 : us 67 = (.slice a6 l6.length c6) := hd ⟨2, .data⟩ (by simp) rfl
                  clear hd
                  go_simp
                  exact (HPF.out _ hst).mono fun e w' ⟨he, hw⟩ => ⟨_, he, kb_below hst (hw ▸ Below.refl _ _) rfl⟩
              · intro us wx hst hd
                have d65 : us 65 = (.agg #[.int .i64 kk, .int .i64 v3]) := hd 0 (by simp)
                have d68 : us 68 = (.bool (l6.isPrefixOf l)) := hd 3 (by simp)
                clear hd
                simp only [List.drop, List.length]
                rw [d65, d68]
                have hq0 := boxB hst hc0 hx0
                have fq0 := freeB hst hf0 hx0
                have HBX6 := Lib.hid (bt0 HB3.out (bt0 HB6.out hst (Nat.le_refl _)) (Nat.le_refl _))
                have hkk : kindJ p1 = kk := by rw [HM.out]; exact kindJ_word hk1 hk
                have HF : Hid (readJ n s l = if l6.isPrefixOf l = true then some ⟨kk, v3⟩ else none) := Lib.hid (by
                  rw [HN.out, hkk, ← HL6.out]
                  have h0 : kk ≠ 0 := by omega
                  simp only [HOK.out, ne_eq, h0, not_false_eq_true, true_and])
                clear hst hc6 hf6 hc0 hf0 hkk
                go_wp2_with fail
                obtain ⟨px, hpx⟩ : ∃ px, l6.isPrefixOf l = px := ⟨_, rfl⟩
                rw [hpx] at HF
                refine bodyPost_ret (v := .tuple #[.agg #[.int .i64 kk, .int .i64 v3], .bool px]) (by simp [results, Tryd.results53, go_sem, hq0, hpx]) rfl ?_
                rw [HF.out]
                have hb9 : Below w.heap.size w ((wx.setCell ⟨w.heap.size, 0, none⟩ (.int .i64 kk)).setCell ⟨w.heap.size, 1, none⟩ (.int .i64 v3)) := (HBX6.out.setCell (Nat.le_refl _) _).setCell (Nat.le_refl _) _
                cases px with
                | false => exact retRcO_no rfl hb9
                | true => exact ⟨kk, v3, rfl, fun r e => by cases e; exact ⟨rfl, rfl⟩, hb9⟩
            · have HNX := Lib.hid (HNO.out.step hm)
              by_cases hw1 : p1 = wordJ kk
              · have h2 : isRecB kk v3 = false := by
                  cases h : isRecB kk v3 with
                  | false => rfl
                  | true => exact absurd ⟨hw1, h⟩ hm
                have h1 : (p1 == (wordJB kk).toList) = true := by rw [beq_iff_eq, ByteArray.toList_eq, wordJB_list]; exact hw1
                clear hm hw1
                refine wp_region_ext (by kernel_rfl) (by kernel_rfl) ?_
                repeat (go_big_quiet_step (first | (go_at_call 69; go_must (apply calls_ext; apply recordWord_any <;> omega)) | (go_at_call 15; go_must (apply calls_ext; apply isRecord_val; assumption))))
                refine wpQuiet_nil ?_
                rintro _ ⟨sx, rfl⟩
                have hsl : W.heap.size ≤ sx.w.heap.size := sx.below.size
                go_wp2_with fail
                exact ⟨⟨kk + 1, by omega, by omega, by go_num, HNX.out, bt0 HBW.out sx.below (Nat.le_refl _)⟩, by simp [intOf]; omega⟩
              · have h1 : (p1 == (wordJB kk).toList) = false := by
                  rw [beq_eq_false_iff_ne, ne_eq, ByteArray.toList_eq, wordJB_list]; exact hw1
                clear hm hw1
                refine wp_region_ext (by kernel_rfl) (by kernel_rfl) ?_
                repeat (go_big_quiet_step (first | (go_at_call 69; go_must (apply calls_ext; apply recordWord_any <;> omega)) | (go_at_call 15; go_must (apply calls_ext; apply isRecord_val; assumption))))
                refine wpQuiet_nil ?_
                rintro _ ⟨sx, rfl⟩
                have hsl : W.heap.size ≤ sx.w.heap.size := sx.below.size
                go_wp2_with fail
                exact ⟨⟨kk + 1, by omega, by omega, by go_num, HNX.out, bt0 HBW.out sx.below (Nat.le_refl _)⟩, by simp [intOf]; omega⟩
          · obtain ⟨hc0, hf0⟩ := heap_cellR (blkK HBR.out HX3.out)
            obtain rfl : kk = 5 := by omega
            have HN9 := Lib.hid (HN.out.trans (if_neg (fun h => HNO.out.no ⟨h.1, h.2.1⟩)))
            go_wp2_with fail
            refine bodyPost_ret (v := .tuple #[.agg #[.int .i64 0, .int .i64 0], .bool false]) (by simp [results, Tryd.results53, go_sem, hc0]) rfl (retRcO_no HN9.out ?_)
            iterate 2 (refine Below.setCell ?_ (by dsimp only; omega) _)
            exact bt0 HB3.out HBR.out (Nat.le_refl _)
    · have HN := Lib.hid (readJ_none2 (n := n) (s := s) HP.out (by rw [← hlen]; exact h4))
      have h4' : ((vs.length : Int) != 4) = true := by simp; omega
      obtain ⟨hc0, hf0⟩ := heap_cellR HX2.out
      clear hlen h4
      go_wp2_with fail
      refine bodyPost_ret (v := .tuple #[.agg #[.int .i64 0, .int .i64 0], .bool false]) (by simp [results, Tryd.results53, go_sem, hc0]) rfl (retRcO_no HN.out ?_)
      iterate 2 (refine Below.setCell ?_ (by dsimp only; omega) _)
      exact HB2.out

end Go.Proofs.YtkmfgchbfchdbaaDoor
