import Derived.Test.YtlcglclojlffgaaGreatDoorK2
import Derived.Test.YtlcglclojlffgaaGreatDoorK3
import Derived.Test.YtlcglclojlffgaaGreatDoorK0
import Derived.Test.YtlcglclojlffgaaGreatDoorK1
import Derived.Laws.AppendOwnNone
import Derived.Deep.RegionHeld3
import Derived.Laws.EntriesVeiled
import Derived.BigQuiet
import Derived.Maps.AppendAt
namespace Go.Proofs.YtlcglclojlffgaaGreatDoor
open Go.RowKit

/-- a size and a code are handed back -/
def RetSm (w : World) (o : Option Int) (e : Ending) (w' : World) : Prop :=
  Below w.heap.size w w' ∧ ((∃ n, o = some n ∧ e = .returned (.tuple #[.int .i64 n, .int .i64 0])) ∨ (o = none ∧ ∃ c, c ≠ 0 ∧ e = .returned (.tuple #[.int .i64 0, .int .i64 c])))
theorem fam_sz {nm : ByteArray} {kd p k g : Int} {szs : List Int} {cl : Int} {lvs : List Int} (h : Fam.ok ⟨nm, kd, p, k, g, szs, cl, lvs⟩ = true) {x : Int} (hx : x ∈ szs) : 3 ≤ x ∧ x ≤ 41 := by
  obtain ⟨-, -, -, -, h5⟩ := fam_ok h
  rcases h5 with ⟨-, h6, -⟩ | ⟨-, -, -, -, -, h7⟩
  · have h7 := List.all_eq_true.1 h6 x hx
    simp [msz] at h7
    omega
  · have := ris_in h7 hx
    omega
/-- a size has room for a message -/
def roomB (f : Fam) (lev need n : Int) : Bool := (f.lay n lev).ok ((2 ^ f.fk.toNat : Nat) : Int) && decide (need ≤ (f.lay n lev).data)
theorem smS_no1 {f : Fam} {lev : Int} {S : List UInt8} (h : inB lev 0 ((f.levels.length : Int) - 1) = false) : smS f lev S = none := by
  rw [smS, if_neg]
  rintro ⟨h1, h2⟩
  rw [inB_iff.2 ⟨h1, by omega⟩] at h
  cases h
theorem smS_no2 {f : Fam} {lev : Int} {S : List UInt8} (h : payS f.fk.toNat S = none) : smS f lev S = none := by
  rw [smS, h]; split <;> rfl
theorem smS_go {f : Fam} {lev : Int} {S : List UInt8} (h : inB lev 0 ((f.levels.length : Int) - 1) = true) {need : Int} (hp : payS f.fk.toNat S = some need) : smS f lev S = f.sizes.find? (roomB f lev need) := by
  have := inB_iff.1 h
  rw [smS, if_pos ⟨this.1, by omega⟩, hp]; rfl

set_option maxRecDepth 100000 in
set_option maxHeartbeats 4000000 in
theorem smallestSize_any (nm : ByteArray) (kd p k g : Int) (a1 : Option Addr) (szs : List Int) (c1 : Nat) (cl : Int) (a2 : Option Addr) (lvs : List Int) (c2 : Nat) (lev : Int) (s : ByteArray) (w : World) (h : Fam.ok ⟨nm, kd, p, k, g, szs, cl, lvs⟩ = true) (h1 : IntsAt w a1 szs) (h2 : IntsAt w a2 lvs) (ln : nm.size ≤ 1048576) (hs : s.size ≤ 1048576) :
    Calls Tryz.prog 175 #[(.agg #[.string nm, .int .i64 kd, .int .i64 p, .int .i64 k, .int .i64 g, .slice a1 szs.length c1, .int .i64 cl, .slice a2 lvs.length c2]), .int .i64 lev, .string s] w (RetSm w (smS ⟨nm, kd, p, k, g, szs, cl, lvs⟩ lev s.data.toList)) := by
  obtain ⟨hfb, hl4, -, hs8, -⟩ := fam_ok h
  have HSZ := Lib.hid (fun x (hx : x ∈ szs) => fam_sz h hx)
  obtain ⟨fam, hfam⟩ : ∃ f, f = Fam.mk nm kd p k g szs cl lvs := ⟨_, rfl⟩
  have HFM := Lib.hid hfam
  have HF := Lib.hid (fv_of hfb)
  have HIF := Lib.hid (fun w (h1 : IntsAt w a1 szs) (h2 : IntsAt w a2 lvs) => isFamily_any nm kd p k g a1 szs c1 cl a2 lvs c2 w h1 h2 (by omega) (by omega) ln (fun x hx => by have := HSZ.out x hx; omega))
  have HHL := Lib.hid (fun w => hasLevel_any nm kd p k g a1 szs c1 cl a2 lvs c2 lev w (by omega))
  have HPS := Lib.hid (fun w => payloadSize_any HF.out s w hs)
  have HLY := Lib.hid (fun n w (hn : hasI szs n = true) (hl : 0 ≤ lev ∧ lev < lvs.length) (hx : IntsAt w a2 lvs) => layout_any nm kd p k g a1 szs c1 cl a2 lvs c2 n lev w h hn hl hx _ rfl)
  rw [← hfam] at HIF HLY h ⊢
  have hk : (bF k.toNat g.toNat).k = fam.fk.toNat := by rw [hfam]; rfl
  have hq : ((bF k.toNat g.toNat).q : Int) = ((2 ^ fam.fk.toNat : Nat) : Int) := by rw [hfam]; rfl
  rw [hk] at HPS
  have HQ := Lib.hid hq
  have H1 := Lib.hid h1
  have H2 := Lib.hid h2
  have HOK := Lib.hid h
  have hsz : fam.sizes = szs := by rw [hfam]
  have hlv : fam.levels = lvs := by rw [hfam]
  have HS := Lib.hid hsz
  obtain ⟨S, hS⟩ : ∃ S, S = s.data.toList := ⟨_, rfl⟩
  have hSl : S.length = s.size := by rw [hS]; rfl
  rw [← hS] at HPS ⊢
  obtain ⟨O, hO⟩ : ∃ O, O = smS fam lev S := ⟨_, rfl⟩
  have HO := Lib.hid hO
  rw [← hO]
  have HN1 := Lib.hid (fun hh => hO.trans (smS_no1 (f := fam) (lev := lev) (S := S) hh))
  have HN2 := Lib.hid (fun hh => hO.trans (smS_no2 (f := fam) (lev := lev) (S := S) hh))
  have HGO := Lib.hid (fun h1 need hh => hO.trans (smS_go (f := fam) (lev := lev) (S := S) h1 (need := need) hh))
  rw [hlv] at HN1 HGO
  rw [hsz] at HGO
  have HP4 := Lib.hid (show ¬ S.length ≤ 400 → payS fam.fk.toNat S = none from fun hh => by rw [payS, if_neg (by omega)])
  have HB0 := Lib.hid (ba1 w (.cells #[.string nm, .int .i64 kd, .int .i64 p, .int .i64 k, .int .i64 g, .slice a1 szs.length c1, .int .i64 cl, .slice a2 lvs.length c2] 123 (0, 0)))
  have K0 := Lib.hid (push_at w (.cells #[.string nm, .int .i64 kd, .int .i64 p, .int .i64 k, .int .i64 g, .slice a1 szs.length c1, .int .i64 cl, .slice a2 lvs.length c2] 123 (0, 0)))
  have HMS := Lib.hid (fun w => isMessage_any s w hs)
  clear h h1 h2 hfb hS hO hfam hk hq hsz hlv
  go_enter Tryz.func175, Tryz.ntmps175
  go_wp2_with fail
  refine (HIF.out _ (H1.out.below HB0.out) (H2.out.below HB0.out)).mono ?_
  rw [HOK.out]
  rintro e w1 ⟨rfl, hb1⟩
  have K1 := Lib.hid (blkK hb1 K0.out)
  have HB1 := Lib.hid (bt0 HB0.out hb1 (Nat.le_refl _))
  clear hb1
  obtain ⟨hcA, hfA⟩ := heap_cellR K1.out
  have z1 := blkLt K1.out
  go_wp2_with fail
  refine (HHL.out _).mono ?_
  rintro e w2 ⟨rfl, hb2⟩
  have K2 := Lib.hid (blkK hb2 K1.out)
  have HB2 := Lib.hid (bt0 HB1.out hb2 (Nat.le_refl _))
  clear hb2 hcA hfA
  obtain ⟨hcA, hfA⟩ := heap_cellR K2.out
  have z2 := blkLt K2.out
  rcases Bool.eq_false_or_eq_true (inB lev 0 ((lvs.length : Int) - 1)) with hv | hv
  rotate_left
  · have HD := Lib.hid (HN1.out hv)
    go_wp2_with fail
    go_ret2
    exact ⟨HB2.out, .inr ⟨HD.out, 2, by decide, rfl⟩⟩
  have HV := Lib.hid hv
  go_wp2_with fail
  refine (HMS.out _).mono ?_
  rintro e w' ⟨rfl, rfl⟩
  by_cases h400 : s.size ≤ 400
  rotate_left
  · have HD := Lib.hid (HN2.out (HP4.out (by omega)))
    have hd : decide (s.size ≤ 400) = false := decide_eq_false h400
    go_wp2_with fail
    go_ret2
    exact ⟨HB2.out, .inr ⟨HD.out, 3, by decide, rfl⟩⟩
  have hd : decide (s.size ≤ 400) = true := decide_eq_true h400
  clear hv
  go_wp2_with fail
  refine (HPS.out _).mono ?_
  rintro e w3 ⟨rfl, hb3⟩
  have K3 := Lib.hid (blkK hb3 K2.out)
  have HB3 := Lib.hid (bt0 HB2.out hb3 (Nat.le_refl _))
  clear hb3 hcA hfA
  obtain ⟨hcA, hfA⟩ := heap_cellR K3.out
  have z3 := blkLt K3.out
  obtain ⟨P, hP⟩ : ∃ P, P = payS fam.fk.toNat S := ⟨_, rfl⟩
  rcases P with _ | need
  · have HD := Lib.hid (HN2.out hP.symm)
    obtain ⟨e1, e2⟩ := payNo hP.symm
    rw [e1, e2]
    clear hP e1 e2
    go_wp2_with fail
    go_ret2
    exact ⟨HB3.out, .inr ⟨HD.out, 4, by decide, rfl⟩⟩
  obtain ⟨e1, e2⟩ := payYes hP.symm
  rw [e1, e2]
  have HD := Lib.hid (HGO.out HV.out need hP.symm)
  have HLI := Lib.hid (show 0 ≤ lev ∧ lev < lvs.length by have := inB_iff.1 HV.out; omega)
  clear hP e1 e2
  go_wp2_with fail
  go_loopw [35] (fun i wr => ∃ j : Nat, j ≤ szs.length ∧ i = .int .i64 j ∧ (szs.take j).find? (roomB fam lev need) = none ∧ Below w3.heap.size w3 wr) (fun i _ => szs.length - (intOf i).toNat)
  case atStart => exact ⟨0, Nat.zero_le _, rfl, rfl, Below.refl _ _⟩
  case round =>
    obtain ⟨j, hj, rfl, hnone, hbr⟩ := hrel
    have HNO := Lib.hid hnone
    have HBR := Lib.hid hbr
    have KR := Lib.hid (blkK hbr K3.out)
    clear hnone hbr hcA hfA
    obtain ⟨hcA, hfA⟩ := heap_cellR KR.out
    have hltR := blkLt KR.out
    by_cases hlt : j < szs.length
    · have hji : (j : Int) < (szs.length : Int) := by omega
      obtain ⟨b1, o1, x, rfl, hxk, hb1, hcx⟩ := (H1.out.below (HB3.out.trans (HBR.out.mono HB3.out.size))).at hlt
      have HXK := Lib.hid hxk
      have HHI := Lib.hid (hasI_yes hxk)
      clear hxk
      go_wp2_with fail
      refine (HLY.out x _ HHI.out HLI.out (H2.out.below (HB3.out.trans (HBR.out.mono HB3.out.size)))).mono ?_
      obtain ⟨L, hL⟩ : ∃ L, L = fam.lay x lev := ⟨_, rfl⟩
      have HL := Lib.hid hL
      rw [← hL]
      rintro e w4 ⟨rfl, hb4⟩
      have HB4 := Lib.hid (bt0 HBR.out hb4 (Nat.le_refl _))
      clear hb4 hL hcx
      go_wp2_with fail
      have KL := Lib.hid (push_at w4 (.cells #[.int .i64 p, .int .i64 k, .int .i64 g, .int .i64 L.data, .int .i64 L.checks, .int .i64 L.count] 146 (0, 0)))
      refine (isLayout_any HF.out L.data L.checks L.count _).mono ?_
      rw [show Lay.mk L.data L.checks L.count = L from rfl, HQ.out]
      rintro e w5 ⟨rfl, hb5⟩
      have KL5 := Lib.hid (blkK hb5 KL.out)
      have HB5 := Lib.hid (bt0 (bt0 HB4.out (ba1 _ _) (Nat.le_refl _)) hb5 (Nat.le_refl _))
      clear hb5 hcA hfA
      obtain ⟨hcL, hfL⟩ := heap_cellR KL5.out
      have zL := blkLt KL5.out
      rcases Bool.eq_false_or_eq_true (L.ok ((2 ^ fam.fk.toNat : Nat) : Int)) with ho | ho
      · rw [ho]
        by_cases hle : need ≤ L.data
        · have HR := Lib.hid (HD.out.trans (find_hit HXK.out HNO.out (show roomB fam lev need x = true by rw [roomB, ← HL.out, ho, decide_eq_true hle]; rfl)))
          clear ho
          go_wp2_with fail
          go_ret2
          exact ⟨bt0 HB3.out HB5.out (Nat.le_refl _), .inl ⟨x, HR.out, rfl⟩⟩
        · have HR := Lib.hid (find_miss HXK.out HNO.out (show roomB fam lev need x = false by rw [roomB, ← HL.out, ho, decide_eq_false hle]; rfl))
          clear ho
          go_wp2_with fail
          exact ⟨⟨j + 1, by omega, by go_num, HR.out, HB5.out⟩, by simp [intOf]; omega⟩
      · rw [ho]
        have HR := Lib.hid (find_miss HXK.out HNO.out (show roomB fam lev need x = false by rw [roomB, ← HL.out, ho, Bool.false_and]))
        clear ho
        go_wp2_with fail
        exact ⟨⟨j + 1, by omega, by go_num, HR.out, HB5.out⟩, by simp [intOf]; omega⟩
    · have hji : ¬ (j : Int) < (szs.length : Int) := by omega
      have HR := Lib.hid (show O = none by have h := HNO.out; rw [List.take_of_length_le (by omega)] at h; rw [HD.out, h])
      go_wp2_with fail
      go_ret2
      exact ⟨bt0 HB3.out HBR.out (Nat.le_refl _), .inr ⟨HR.out, 4, by decide, rfl⟩⟩

end Go.Proofs.YtlcglclojlffgaaGreatDoor
namespace Go.Proofs.YtlcglclojlffgaaGreatDoor
open Go.RowKit

/-- the first m cells of row g are ys -/
def RowIs (W : World) (g cap m : Nat) (ys : List Int) : Prop := ∃ cur : Array Value, W.heap[g]? = some (.cells cur 2 (0, 0)) ∧ cur.size = cap ∧ cur.toList.take m = ys.map (Value.int .i64)
theorem RowIs.below {W W' : World} {g cap m B : Nat} {ys : List Int} (h : RowIs W g cap m ys) (hb : Below B W W') (hg : g < B) : RowIs W' g cap m ys := by
  obtain ⟨cur, h1, h2, h3⟩ := h
  exact ⟨cur, (hb.block g hg).trans h1, h2, h3⟩
theorem RowIs.lt {W : World} {g cap m : Nat} {ys : List Int} (h : RowIs W g cap m ys) : g < W.heap.size := by
  obtain ⟨cur, h1, _⟩ := h
  exact (Array.getElem?_eq_some_iff.1 h1).1
theorem RowIs.own {W : World} {g cap m : Nat} {ys : List Int} (h : RowIs W g cap m ys) (hl : ys.length = m) (hm : m ≤ cap) (hc : cap ≤ maxLen) : OwnI W g (.slice (some ⟨g, 0, none⟩) ys.length cap) ys := by
  obtain ⟨cur, h1, h2, h3⟩ := h
  exact ⟨by simp, Or.inr ⟨g, cap, cur, rfl, Nat.le_refl _, h1, by omega, hc, by omega, by rw [Nat.mul_one, hl]; exact h3⟩⟩
/-- one pixel more -/
theorem RowIs.more {W : World} {g cap m : Nat} {ys : List Int} {z : Int} {b : Nat} (h : RowIs W g cap m ys) (hm : m < cap) (hz : W.cell? ⟨b, 0, none⟩ = some (.int .i64 z)) (ty : TypeId) :
    ∃ W', (Builtin.append_ #[67, 67] ty #[.slice (some ⟨g, 0, none⟩) m cap, .slice (some ⟨b, 0, none⟩) 1 1]).run Tryz.prog W = .ok (.slice (some ⟨g, 0, none⟩) (m + 1) cap) W' ∧ RowIs W' g cap m ys ∧ RowIs W' g cap (m + 1) (ys ++ [z]) ∧ W.grownBy W' (some g) := by
  obtain ⟨cur, h1, h2, h3⟩ := h
  obtain ⟨i0, hi, y0, y1, y2⟩ := info_parts infoI
  have hr := run_append_room (P := Tryz.prog) W 67 ty 2 i0 Tryz.underlying67 hi g m cap cur h1 ⟨b, 0, none⟩ 1 1 [.int .i64 z] (by rw [y1]; rfl)
    (fun j u hj => by
      match j, hj with
      | 0, hj => simp at hj; subst hj; simpa [Addr.add] using hz
      | j + 1, hj => simp at hj) (fun u hu => by rw [List.mem_singleton] at hu; subst hu; rfl) hm (by rw [y1]; simp; omega)
  rw [y1, Nat.mul_one] at hr
  have hlen : cur.toList.length = cap := by simpa using h2
  have hrow := setRow_heap W g cur (cur.toList.take m ++ [Value.int .i64 z] ++ cur.toList.drop (m + 1)).toArray 2 (0, 0) h1
  have hsz : (cur.toList.take m ++ [Value.int .i64 z] ++ cur.toList.drop (m + 1)).toArray.size = cap := by
    simp only [List.size_toArray, List.length_append, List.length_take, List.length_drop, List.length_singleton]
    omega
  have htl : (cur.toList.take m).length = m := by rw [List.length_take]; omega
  refine ⟨_, hr, ⟨_, hrow, hsz, ?_⟩, ⟨_, hrow, hsz, ?_⟩, ⟨rfl, rfl, rfl, by simp, fun k _ hk => setRow_other W g k _ (fun e => hk (by rw [e]))⟩⟩
  · rw [List.append_assoc, List.take_append_of_le_length (by omega), List.take_of_length_le (by omega)]
    exact h3
  · rw [List.take_append_of_le_length (by simp; omega), List.take_of_length_le (by simp; omega), h3, List.map_append]
    rfl

/-- the first t pixels -/
def pix (F : Nat → Nat → Int) (m t : Nat) : List Int := (List.range t).map fun i => F (i / m) (i % m)
/-- while a raster is made -/
def RasAt (w W : World) (n m : Int) (cap t : Nat) (ys : List Int) : Prop :=
  W.heap[w.heap.size]? = some (.cells #[.int .i64 0, .int .i64 0, .slice none 0 0] 101 (0, 0)) ∧ W.heap[w.heap.size + 2]? = some (.cells #[.int .i64 n, .int .i64 m, .slice (some ⟨w.heap.size + 1, 0, none⟩) t cap] 101 (0, 0)) ∧
    RowIs W (w.heap.size + 1) cap t ys ∧ Below w.heap.size w W
theorem RasAt.below {w W W' : World} {n m : Int} {cap t : Nat} {ys : List Int} (h : RasAt w W n m cap t ys) (hb : Below W.heap.size W W') : RasAt w W' n m cap t ys :=
  ⟨(hb.block _ (Array.getElem?_eq_some_iff.1 h.1).1).trans h.1, (hb.block _ (Array.getElem?_eq_some_iff.1 h.2.1).1).trans h.2.1, h.2.2.1.below hb h.2.2.1.lt, bt0 h.2.2.2 hb (Nat.le_refl _)⟩
theorem RasAt.row {w W W' : World} {n m : Int} {cap t : Nat} {ys : List Int} (h : RasAt w W n m cap t ys) (hg : W.grownBy W' (some (w.heap.size + 1))) (hr : RowIs W' (w.heap.size + 1) cap t ys) : RasAt w W' n m cap t ys :=
  ⟨(hg.block _ (Array.getElem?_eq_some_iff.1 h.1).1 (fun e => by have := Option.some.inj e; omega)).trans h.1, (hg.block _ (Array.getElem?_eq_some_iff.1 h.2.1).1 (fun e => by have := Option.some.inj e; omega)).trans h.2.1, hr, h.2.2.2.trans (below_of_grownBy hg h.2.2.2.size (fun k e => by have := Option.some.inj e; omega))⟩
/-- the grown slice is stored back -/
theorem RasAt.store {w W : World} {n m : Int} {cap t t' : Nat} {ys ys' : List Int} (h : RasAt w W n m cap t ys) (hr : RowIs W (w.heap.size + 1) cap t' ys') :
    RasAt w (W.setCell ⟨w.heap.size + 2, 2, none⟩ (.slice (some ⟨w.heap.size + 1, 0, none⟩) t' cap)) n m cap t' ys' := by
  have hg := grownBy_set W (w.heap.size + 2) 2 (.slice (some ⟨w.heap.size + 1, 0, none⟩) t' cap)
  refine ⟨(hg.block _ (Array.getElem?_eq_some_iff.1 h.1).1 (fun e => by have := Option.some.inj e; omega)).trans h.1, src_set h.2.1 2 _, ?_, Below.setCell h.2.2.2 (by dsimp only; omega) _⟩
  obtain ⟨cur, h1, h2, h3⟩ := hr
  exact ⟨cur, (hg.block _ (Array.getElem?_eq_some_iff.1 h1).1 (fun e => by have := Option.some.inj e; omega)).trans h1, h2, h3⟩
end Go.Proofs.YtlcglclojlffgaaGreatDoor
namespace Go.Proofs.YtlcglclojlffgaaGreatDoor
open Go.RowKit

/-- are the fields of a damage as described for its kind -/
def fineB (k r c t w : Int) : Bool :=
  if k = 1 then inB r 0 400 && inB c 0 400 && inB t 0 400 && (w == 0)
  else if k = 2 then inB r 0 400 && inB c 0 400 && inB t 1 400 && inB w 1 400
  else if k = 3 then (r == 0) && (c == 0) && inB t 1 400 && inB w (-400) 400
  else if k = 4 then inB r 0 400 && inB t 0 400 && (c == 0) && (w == 0)
  else if k = 5 then (r == 0) && (c == 0) && (w == 0) && inB t 0 256
  else false
/-- a valid damage -/
def dmOk (k r c t w g : Int) : Bool := fineB k r c t w && inB g 0 255
/-- does a blot or a scratch touch a pixel -/
def touchB (k r c t w y x : Int) : Bool := if k = 1 then decide ((y - r) * (y - r) + (x - c) * (x - c) ≤ t * t) else inB y r (r + t - 1) && inB x c (c + w - 1)
/-- a pixel behind a damage that is no noise -/
def dpix (k r c t w g : Int) (m : Nat) (xs : List Int) (y x : Nat) : Int :=
  if k = 3 then (if inB ((x : Int) - (y : Int) * w / t) 0 ((m : Int) - 1) = true then xs.getD (y * m + ((x : Int) - (y : Int) * w / t).toNat) 0 else g)
  else if k = 5 then (xs.getD (y * m + x) 0 * t + g * (256 - t)) / 256
  else if touchB k r c t w y x = true then g else xs.getD (y * m + x) 0
/-- rounds of noise -/
def nz (g : Int) (N : Nat) (p : Int × List Int) : Nat → Int × List Int
  | 0 => p
  | t + 1 => ((75 * (nz g N p t).1 + 74) % 65537, (nz g N p t).2.set (((75 * (nz g N p t).1 + 74) % 65537) % (N : Int)).toNat g)
/-- the pixels behind a damage -/
def dmgL (k r c t w g : Int) (n m : Nat) (xs : List Int) : List Int :=
  if k = 4 then (nz g (n * m) (r, xs) t.toNat).2 else pix (dpix k r c t w g m xs) m (n * m)

/-- a damage in six numbers -/
structure Dm where
  k : Int
  r : Int
  c : Int
  t : Int
  w : Int
  g : Int
def Dm.ok (d : Dm) : Bool := dmOk d.k d.r d.c d.t d.w d.g
def Dm.on (d : Dm) (n m : Nat) (xs : List Int) : List Int := dmgL d.k d.r d.c d.t d.w d.g n m xs
/-- a raster may have n rows and m columns -/
def sizeB (n m : Int) : Bool := inB n 1 400 && inB m 1 400 && decide (n * m ≤ 40000)
theorem size_bd {n m : Int} (h1 : inB n 1 400 = true) (h2 : inB m 1 400 = true) : 1 ≤ n * m ∧ n * m ≤ 160000 := by
  rw [inB_iff] at h1 h2
  have a : 1 * 1 ≤ n * m := Int.mul_le_mul h1.1 h2.1 (by omega) (by omega)
  have b : n * m ≤ 400 * 400 := Int.mul_le_mul h1.2 h2.2 (by omega) (by omega)
  omega
theorem three (a b c : Bool) : a = false ∨ (a = true ∧ b = false) ∨ (a = true ∧ b = true ∧ c = false) ∨ (a = true ∧ b = true ∧ c = true) := by
  cases a <;> cases b <;> cases c <;> simp
end Go.Proofs.YtlcglclojlffgaaGreatDoor
namespace Go.Proofs.YtlcglclojlffgaaGreatDoor
open Go.RowKit

set_option maxHeartbeats 400000 in
theorem isRasterSize_any (n m : Int) (w : World) : Calls Tryz.prog 55 #[.int .i64 n, .int .i64 m] w fun e w' => e = .returned (.bool (sizeB n m)) ∧ w = w' := by
  rcases three (inB n 1 400) (inB m 1 400) (decide (n * m ≤ 40000)) with h1 | ⟨h1, h2⟩ | ⟨h1, h2, h3⟩ | ⟨h1, h2, h3⟩
  · have e : sizeB n m = false := by rw [sizeB, h1]; rfl
    rw [e]
    clear e
    go_enter Tryz.func55, Tryz.ntmps55
    go_wp2_with (go_at_call 71; refine (inRange_val h1).mono ?_; rintro e w' ⟨rfl, rfl⟩)
    go_ret
    exact ⟨rfl, rfl⟩
  · have e : sizeB n m = false := by rw [sizeB, h1, h2]; rfl
    rw [e]
    clear e
    go_enter Tryz.func55, Tryz.ntmps55
    go_wp2_with fail
    refine (inRange_val h1).mono ?_
    rintro e w' ⟨rfl, rfl⟩
    go_wp2_with fail
    refine (inRange_val h2).mono ?_
    rintro e w' ⟨rfl, rfl⟩
    go_wp2_with fail
    go_ret
    exact ⟨rfl, rfl⟩
  all_goals
    obtain ⟨b1, b2⟩ := size_bd h1 h2
    first | (have e : sizeB n m = false := by (rw [sizeB, h1, h2, h3]; rfl)
             rw [e]; clear e) | (have e : sizeB n m = true := by (rw [sizeB, h1, h2, h3]; rfl)
                                 rw [e]; clear e)
    go_enter Tryz.func55, Tryz.ntmps55
    go_wp2_with fail
    refine (inRange_val h1).mono ?_
    rintro e w' ⟨rfl, rfl⟩
    go_wp2_with fail
    refine (inRange_val h2).mono ?_
    rintro e w' ⟨rfl, rfl⟩
    go_wp2_with fail
    go_ret
    exact ⟨rfl, rfl⟩
set_option maxHeartbeats 400000 in
theorem l20Size_any (n m : Int) (w : World) : Calls Tryz.prog 43 #[.int .i64 n, .int .i64 m] w fun e w' => e = .returned (.bool (sizeB n m)) ∧ w = w' := by
  rcases three (inB n 1 400) (inB m 1 400) (decide (n * m ≤ 40000)) with h1 | ⟨h1, h2⟩ | ⟨h1, h2, h3⟩ | ⟨h1, h2, h3⟩
  · have e : sizeB n m = false := by rw [sizeB, h1]; rfl
    rw [e]
    clear e
    go_enter Tryz.func43, Tryz.ntmps43
    go_wp2_with (go_at_call 44; refine (l01In_val h1).mono ?_; rintro e w' ⟨rfl, rfl⟩)
    go_ret
    exact ⟨rfl, rfl⟩
  · have e : sizeB n m = false := by rw [sizeB, h1, h2]; rfl
    rw [e]
    clear e
    go_enter Tryz.func43, Tryz.ntmps43
    go_wp2_with fail
    refine (l01In_val h1).mono ?_
    rintro e w' ⟨rfl, rfl⟩
    go_wp2_with fail
    refine (l01In_val h2).mono ?_
    rintro e w' ⟨rfl, rfl⟩
    go_wp2_with fail
    go_ret
    exact ⟨rfl, rfl⟩
  all_goals
    obtain ⟨b1, b2⟩ := size_bd h1 h2
    first | (have e : sizeB n m = false := by (rw [sizeB, h1, h2, h3]; rfl)
             rw [e]; clear e) | (have e : sizeB n m = true := by (rw [sizeB, h1, h2, h3]; rfl)
                                 rw [e]; clear e)
    go_enter Tryz.func43, Tryz.ntmps43
    go_wp2_with fail
    refine (l01In_val h1).mono ?_
    rintro e w' ⟨rfl, rfl⟩
    go_wp2_with fail
    refine (l01In_val h2).mono ?_
    rintro e w' ⟨rfl, rfl⟩
    go_wp2_with fail
    go_ret
    exact ⟨rfl, rfl⟩
end Go.Proofs.YtlcglclojlffgaaGreatDoor
namespace Go.Proofs.YtlcglclojlffgaaGreatDoor
open Go.RowKit

/-- the slice at address a holds the texts ss -/
def StrsAt (w : World) (a : Option Addr) (ss : List ByteArray) : Prop :=
  ∀ i (h : i < ss.length), ∃ b o, a = some ⟨b, o, none⟩ ∧ w.cell? ⟨b, o + i, none⟩ = some (.string ss[i])
theorem StrsAt.at {w : World} {a : Option Addr} {ss : List ByteArray} (H : StrsAt w a ss) {k : Nat} (hk : k < ss.length) :
    ∃ b o z, a = some ⟨b, o, none⟩ ∧ ss[k]? = some z ∧ b < w.heap.size ∧ w.cell? ⟨b, o + k, none⟩ = some (.string z) := by
  obtain ⟨b, o, ha, hc⟩ := H k hk
  exact ⟨b, o, ss[k], ha, List.getElem?_eq_getElem hk, lt_of_cell hc, hc⟩
theorem StrsAt.below {w w' : World} {a : Option Addr} {ss : List ByteArray} (H : StrsAt w a ss) (hb : Below w.heap.size w w') : StrsAt w' a ss := by
  intro i h
  obtain ⟨b, o, ha, hc⟩ := H i h
  exact ⟨b, o, ha, by rw [hb.cell (p := ⟨b, o + i, none⟩) (lt_of_cell hc)]; exact hc⟩
theorem StrsAt.grow {w w' : World} {a : Option Addr} {ss : List ByteArray} {B : Nat} (H : StrsAt w a ss) (hB : ∀ ad, a = some ad → ad.block < B) (hb : Below B w w') : StrsAt w' a ss := by
  intro i h
  obtain ⟨b, o, ha, hc⟩ := H i h
  exact ⟨b, o, ha, by rw [hb.cell (p := ⟨b, o + i, none⟩) (show b < B from hB _ ha)]; exact hc⟩
theorem StrsAt.nil {w : World} {a : Option Addr} : StrsAt w a [] := fun i h => absurd h (by simp)

/-- the slice v is the call's own and holds the texts ss -/
def OwnS (w : World) (base : Nat) (v : Value) (ss : List ByteArray) : Prop := w.ownsRow base 9 1 v ss.length (ss.map Value.string)
theorem OwnS.read {w : World} {base : Nat} {v : Value} {zs : List ByteArray} (h : OwnS w base v zs) : ∃ a c, v = .slice a zs.length c ∧ StrsAt w a zs := by
  unfold OwnS at h
  have h2 := h.2
  rcases h2 with ⟨rfl, h0⟩ | ⟨g, cap, cur, rfl, hb, hg, hn, hm, hs, ht⟩
  · refine ⟨none, 0, by rw [h0], ?_⟩
    intro i hi; omega
  · refine ⟨some ⟨g, 0, none⟩, cap, rfl, ?_⟩
    intro i hi
    refine ⟨g, 0, rfl, ?_⟩
    rw [Nat.zero_add, h.cellAt i (by omega)]
    simp [hi]
theorem OwnS.strs {w : World} {base : Nat} {a : Option Addr} {n c : Nat} {zs : List ByteArray} (h : OwnS w base (.slice a n c) zs) : StrsAt w a zs := by
  obtain ⟨a', c', e, hx⟩ := h.read
  obtain ⟨rfl, _, _⟩ := Value.slice.inj e
  exact hx
theorem OwnS.len {w : World} {base : Nat} {v : Value} {zs : List ByteArray} (h : OwnS w base v zs) : zs.length ≤ maxLen := by
  rcases h.2 with ⟨_, h0⟩ | ⟨g, cap, cur, rfl, hb, hg, hn, hm, hs, ht⟩
  · rw [h0]; exact Nat.zero_le _
  · omega
theorem OwnS.block {w : World} {base : Nat} {a : Option Addr} {n c : Nat} {zs : List ByteArray} (h : OwnS w base (.slice a n c) zs) (hk : 0 < zs.length) : ∃ g, a = some ⟨g, 0, none⟩ ∧ base ≤ g ∧ n = zs.length ∧ g < w.heap.size := by
  rcases h.2 with ⟨h1, h0⟩ | ⟨g, cap, cur, h1, hb, hg, _⟩
  · omega
  · simp only [Value.slice.injEq] at h1
    obtain ⟨rfl, rfl, rfl⟩ := h1
    exact ⟨g, rfl, hb, rfl, (Array.getElem?_eq_some_iff.1 hg).1⟩
theorem OwnS.grown {w w' : World} {base : Nat} {v : Value} {zs : List ByteArray} (h : OwnS w base v zs) (hb : Below w.heap.size w w') : OwnS w' base v zs :=
  h.kept (row := none) ⟨hb.os, hb.tape, hb.output, hb.size, fun k hk _ => hb.block k hk⟩ (by cases hv : v.ownBlock <;> simp)
theorem OwnS.weak {w : World} {base base' : Nat} {v : Value} {zs : List ByteArray} (h : OwnS w base v zs) (hb : base' ≤ base) : OwnS w base' v zs := by
  refine ⟨h.1, ?_⟩
  rcases h.2 with h2 | ⟨g, cap, cur, h1, hb', r⟩
  · exact Or.inl h2
  · exact Or.inr ⟨g, cap, cur, h1, by omega, r⟩
theorem OwnS.lo {w : World} {base : Nat} {v : Value} {zs : List ByteArray} (h : OwnS w base v zs) : ∀ k, v.ownBlock = some k → base ≤ k := fun k hk => (World.ownsRow.lt h k hk).1
theorem OwnS.hi {w : World} {base : Nat} {v : Value} {zs : List ByteArray} (h : OwnS w base v zs) : ∀ k, v.ownBlock = some k → k < w.heap.size := fun k hk => (World.ownsRow.lt h k hk).2
theorem OwnS.cellAt {w : World} {base g n c : Nat} {zs : List ByteArray} (h : OwnS w base (.slice (some ⟨g, 0, none⟩) n c) zs) (hn : n = zs.length) {k : Nat} (hk : k < zs.length) :
    ∃ z, zs[k]? = some z ∧ w.cell? ⟨g, k, none⟩ = some (.string z) ∧ w.frozen? ⟨g, k, none⟩ = false := by
  subst hn
  refine ⟨zs[k], by simp [hk], ?_, h.frozenAt k⟩
  rw [World.ownsRow.cellAt h k (by omega)]
  simp [hk]
theorem OwnS.stored {w : World} {base g n c : Nat} {zs : List ByteArray} (h : OwnS w base (.slice (some ⟨g, 0, none⟩) n c) zs) (hn : n = zs.length) (k : Nat) (z : ByteArray) :
    OwnS (w.setCell ⟨g, k, none⟩ (.string z)) base (.slice (some ⟨g, 0, none⟩) n c) (zs.set k z) ∧ w.grownBy (w.setCell ⟨g, k, none⟩ (.string z)) (some g) := by
  subst hn
  have hst := World.ownsRow.stored (h := h) k (.string z)
  refine ⟨?_, hst.2⟩
  unfold OwnS
  rw [List.map_set, List.length_set]
  exact hst.1
theorem OwnS.of_made {w : World} {base : Nat} {v : Value} {n : Nat} (h : w.ownsRow base 9 1 v n (madeCells #[.string ⟨#[]⟩] n).toList) : OwnS w base v (List.replicate n ⟨#[]⟩) := by
  unfold OwnS
  rw [toList_madeCells_one] at h
  simpa using h
/-- after j rounds of a copy -/
def CopiedS (w : World) (base g : Nat) (xs : List ByteArray) (j : Nat) : Prop :=
  ∃ zs : List ByteArray, zs.length = xs.length ∧ OwnS w base (.slice (some ⟨g, 0, none⟩) xs.length xs.length) zs ∧ zs.take j = xs.take j
theorem CopiedS.step {w : World} {base g : Nat} {xs : List ByteArray} {j : Nat} {x : ByteArray} (h : CopiedS w base g xs j) (hx : xs[j]? = some x) : CopiedS (w.setCell ⟨g, j, none⟩ (.string x)) base g xs (j + 1) := by
  obtain ⟨zs, hl, ho, ht⟩ := h
  have hj : j < xs.length := (List.getElem?_eq_some_iff.1 hx).1
  refine ⟨zs.set j x, by simpa using hl, (ho.stored hl.symm j x).1, ?_⟩
  rw [take_snoc' hx, take_snoc' (zs := zs.set j x) (k := j) (z := x) (by simp [hl, hj]), List.take_set_of_le (Nat.le_refl _), ht]
theorem CopiedS.fin {w : World} {base g : Nat} {xs : List ByteArray} (h : CopiedS w base g xs xs.length) : OwnS w base (.slice (some ⟨g, 0, none⟩) xs.length xs.length) xs := by
  obtain ⟨zs, hl, ho, ht⟩ := h
  rw [List.take_of_length_le (by omega), List.take_of_length_le (by omega)] at ht
  rwa [ht] at ho

end Go.Proofs.YtlcglclojlffgaaGreatDoor
namespace Go.Proofs.YtlcglclojlffgaaGreatDoor
open Go.RowKit

/-- a damage lies at an address -/
def DmAt (w : World) (b o : Nat) (d : Dm) : Prop := w.cell? ⟨b, o, none⟩ = some (.int .i64 d.k) ∧ w.cell? ⟨b, o + 1, none⟩ = some (.int .i64 d.r) ∧ w.cell? ⟨b, o + 2, none⟩ = some (.int .i64 d.c) ∧ w.cell? ⟨b, o + 3, none⟩ = some (.int .i64 d.t) ∧ w.cell? ⟨b, o + 4, none⟩ = some (.int .i64 d.w) ∧ w.cell? ⟨b, o + 5, none⟩ = some (.int .i64 d.g)
/-- the damages ds lie at a -/
def DmsAt (w : World) (a : Option Addr) (ds : List Dm) : Prop := ∀ i (h : i < ds.length), ∃ b o, a = some ⟨b, o, none⟩ ∧ DmAt w b (o + i * 6) ds[i]
theorem DmAt.below {w w' : World} {b o : Nat} {d : Dm} (h : DmAt w b o d) (hb : Below w.heap.size w w') : DmAt w' b o d := by
  obtain ⟨h0, h1, h2, h3, h4, h5⟩ := h
  have hl := lt_of_cell h0
  have hc := (bcell hb).1
  exact ⟨(hc b _ hl).trans h0, (hc b _ hl).trans h1, (hc b _ hl).trans h2, (hc b _ hl).trans h3, (hc b _ hl).trans h4, (hc b _ hl).trans h5⟩
theorem DmsAt.below {w w' : World} {a : Option Addr} {ds : List Dm} (H : DmsAt w a ds) (hb : Below w.heap.size w w') : DmsAt w' a ds := fun i h => by
  obtain ⟨b, o, ha, hc⟩ := H i h
  exact ⟨b, o, ha, hc.below hb⟩
theorem DmsAt.at {w : World} {a : Option Addr} {ds : List Dm} (H : DmsAt w a ds) {i : Nat} (hi : i < ds.length) : ∃ b o d, a = some ⟨b, o, none⟩ ∧ ds[i]? = some d ∧ b < w.heap.size ∧ DmAt w b (o + i * 6) d := by
  obtain ⟨b, o, ha, hc⟩ := H i hi
  exact ⟨b, o, ds[i], ha, List.getElem?_eq_getElem hi, lt_of_cell hc.1, hc⟩

end Go.Proofs.YtlcglclojlffgaaGreatDoor
namespace Go.Proofs.YtlcglclojlffgaaGreatDoor
open Go.RowKit

theorem quiet_same' {P : Program} {f : FuncId} {args : Array Value} {w : World} {n : Nat} {v : Value} (h : Calls P f args (w.drewN n) fun e w' => e = .returned v ∧ w.drewN n = w') : Calls P f args (w.drewN n) fun e w'' => e = .returned v ∧ ∃ m, w'' = w.drewN m :=
  Calls.quiet_of_same (h.mono fun _ _ ⟨h1, h2⟩ => ⟨h1, h2.symm⟩)
end Go.Proofs.YtlcglclojlffgaaGreatDoor
namespace Go.Proofs.YtlcglclojlffgaaGreatDoor
open Go.RowKit

set_option maxRecDepth 100000 in
set_option maxHeartbeats 1000000 in
theorem spName_any (s : ByteArray) (w : World) (hs : s.size ≤ 1048576) :
    Calls Tryz.prog 104 #[.string s] w fun e w' => e = .returned (.bool (nameB s.data.toList)) ∧ w = w' := by
  have hl : s.data.toList.length = s.size := rfl
  have HL := Lib.hid hl
  clear hl
  go_enter Tryz.func104, Tryz.ntmps104
  go_wp2_with fail
  go_loop [3] (fun i => ∃ k : Nat, k ≤ s.size ∧ i = .int .i64 k ∧ ∀ i (hi : i < s.size), i < k → 97 ≤ s[i].toNat ∧ s[i].toNat ≤ 122) (fun i => s.size - (intOf i).toNat)
  case atStart => exact ⟨0, Nat.zero_le _, rfl, fun i _ h => by omega⟩
  case round =>
    obtain ⟨k, hk, rfl, hall⟩ := hrel
    have HA := Lib.hid hall
    clear hall
    by_cases hlt : k < s.size
    · have hki : (k : Int) < (s.size : Int) := by omega
      by_cases h1 : s[k].toNat < 97
      · have HR := Lib.hid (name_no (h := hlt) (Or.inl h1))
        have hd : decide (((s[k].toNat : Nat) : Int) < 97) = true := by simp; omega
        go_wp2_with fail
        go_ret
        exact ⟨ret_bool HR.out.symm, rfl⟩
      · have hd : decide (((s[k].toNat : Nat) : Int) < 97) = false := by simp; omega
        by_cases h2 : 122 < s[k].toNat
        · have HR := Lib.hid (name_no (h := hlt) (Or.inr h2))
          have hd2 : decide ((122 : Int) < ((s[k].toNat : Nat) : Int)) = true := by simp; omega
          clear h1 h2
          go_wp2_with fail
          go_ret
          exact ⟨ret_bool HR.out.symm, rfl⟩
        · have hd2 : decide ((122 : Int) < ((s[k].toNat : Nat) : Int)) = false := by simp; omega
          have HK : Hid (97 ≤ s[k].toNat ∧ s[k].toNat ≤ 122) := Lib.hid (by omega)
          clear h1 h2
          go_wp2_with fail
          refine ⟨⟨k + 1, by omega, by go_num, fun i hi hik => ?_⟩, by simp [intOf]; omega⟩
          by_cases e : i = k
          · subst e; exact HK.out
          · exact HA.out i hi (by omega)
    · have hki : ¬ (k : Int) < (s.size : Int) := by omega
      have HR := Lib.hid (name_yes (s := s) (fun i hi => HA.out i hi (by omega)))
      by_cases h1 : 1 ≤ s.size
      · have h1' : (1 : Int) ≤ (s.size : Int) := by omega
        by_cases h8 : s.size ≤ 8
        · have h8' : (s.size : Int) ≤ 8 := by omega
          have HE := Lib.hid (HR.out.trans (decide_eq_true ⟨h1', h8'⟩))
          go_wp2_with fail
          go_ret
          exact ⟨ret_bool HE.out.symm, rfl⟩
        · have h8' : ¬ (s.size : Int) ≤ 8 := by omega
          have HE := Lib.hid (HR.out.trans (decide_eq_false (fun h => h8' h.2)))
          go_wp2_with fail
          go_ret
          exact ⟨ret_bool HE.out.symm, rfl⟩
      · have h1' : ¬ (1 : Int) ≤ (s.size : Int) := by omega
        have HE := Lib.hid (HR.out.trans (decide_eq_false (fun h => h1' h.1)))
        go_wp2_with fail
        go_ret
        exact ⟨ret_bool HE.out.symm, rfl⟩
theorem spIn_val {n lo hi : Int} {b : Bool} {w : World} (h : inB n lo hi = b) :
    Calls Tryz.prog 44 #[.int .i64 n, .int .i64 lo, .int .i64 hi] w fun e w' => e = .returned (.bool b) ∧ w = w' := h ▸ spIn_any n lo hi w
/-- a list that rises, not empty and not too long -/
def risS (most : Nat) (lo hi : Int) (xs : List Int) : Bool := decide (1 ≤ xs.length) && decide (xs.length ≤ most) && risB lo hi xs
set_option maxRecDepth 100000 in
set_option maxHeartbeats 2000000 in
theorem spRises_any (most : Nat) (hm : most ≤ 8) (lo hi : Int) (a : Option Addr) (xs : List Int) (c : Nat) (w : World) (hx : IntsAt w a xs) (lx : xs.length ≤ 1099511627776) :
    Calls Tryz.prog 106 #[.slice a xs.length c, .int .i64 (most : Int), .int .i64 lo, .int .i64 hi] w fun e w' => e = .returned (.bool (risS most lo hi xs)) ∧ ∃ n, w' = w.drewN n := by
  have HX := Lib.hid hx
  clear hx
  obtain ⟨R, hR⟩ : ∃ R, R = risS most lo hi xs := ⟨_, rfl⟩
  have HR := Lib.hid hR
  rw [← hR]
  clear hR
  by_cases h1 : 1 ≤ xs.length
  · have h1' : ¬ ((xs.length : Nat) : Int) < 1 := by omega
    by_cases h2 : xs.length ≤ most
    · have h2' : ¬ (most : Int) < (xs.length : Int) := by omega
      have HR2 := Lib.hid (show R = risB lo hi xs by rw [HR.out, risS, decide_eq_true h1, decide_eq_true h2]; rfl)
      clear HR
      go_enter Tryz.func106, Tryz.ntmps106
      go_wp2_with fail
      go_loopw [9] (fun i wr => ∃ k n : Nat, k ≤ xs.length ∧ i = .int .i64 k ∧ (∀ i, i < k → (lo ≤ xs.getD i 0 ∧ xs.getD i 0 ≤ hi) ∧ (0 < i → xs.getD (i - 1) 0 < xs.getD i 0)) ∧ wr = w.drewN n) (fun i _ => xs.length - (intOf i).toNat)
      case atStart => exact ⟨0, 0, Nat.zero_le _, rfl, fun i h => by omega, rfl⟩
      case round =>
        obtain ⟨k, n, hk, rfl, hall, hwr⟩ := hrel
        have HA := Lib.hid hall
        have HWR := Lib.hid hwr
        have HXr := Lib.hid (show IntsAt wr a xs by rw [hwr]; exact HX.out.below (below_drewN (Below.refl _ _) _))
        clear hall hwr
        by_cases hlt : k < xs.length
        · obtain ⟨b1, o1, x, rfl, hxk, hb1, hc1⟩ := HXr.out.at hlt
          have hki : (k : Int) < (xs.length : Int) := by omega
          have HG := Lib.hid (getD_of hxk)
          clear hxk
          rcases Bool.eq_false_or_eq_true (inB x lo hi) with hin | hin
          · have hin' := inB_iff.1 hin
            have HIN := Lib.hid (fun w => spIn_val (w := w) hin)
            by_cases hk0 : k = 0
            · have hk0' : decide (0 < k) = false := by simp; omega
              have HK : Hid (∀ i, i < k + 1 → (lo ≤ xs.getD i 0 ∧ xs.getD i 0 ≤ hi) ∧ (0 < i → xs.getD (i - 1) 0 < xs.getD i 0)) := Lib.hid (fun i hi => by
                obtain rfl : i = k := by omega
                rw [HG.out]
                exact ⟨hin', fun h => by omega⟩)
              clear hk0 hin
              go_wp2_with fail
              go_quiet ((go_at_call 44; go_must (exact quiet_same' (HIN.out _))))
              go_wp2_with fail
              exact ⟨⟨k + 1, _, by omega, by go_num, HK.out, by rw [HWR.out, World.drewN_drewN]⟩, by simp [intOf]; omega⟩
            · obtain ⟨k, rfl⟩ : ∃ k', k = k' + 1 := ⟨k - 1, by omega⟩
              obtain ⟨b2, o2, y, e2, hyk, hb2, hc2⟩ := HXr.out.at (k := k) (by omega)
              simp only [Option.some.injEq, Addr.mk.injEq, and_true] at e2
              obtain ⟨rfl, rfl⟩ := e2
              have HY := Lib.hid (getD_of hyk)
              have hk0' : decide (0 < k + 1) = true := by simp
              have hk1' : ((k + 1 : Nat) : Int) - 1 = (k : Int) := by omega
              clear hyk hk0 hin
              by_cases hxy : x ≤ y
              · have hd : decide (x ≤ y) = true := decide_eq_true hxy
                have HE := Lib.hid (HR2.out.trans (ris_no (lo := lo) (hi := hi) hlt (Or.inr ⟨by omega, by rw [HG.out, Nat.add_sub_cancel, HY.out]; exact hxy⟩)))
                clear hxy
                go_wp2_with fail
                go_quiet ((go_at_call 44; go_must (exact quiet_same' (HIN.out _))))
                go_wp2_with fail
                go_ret
                exact ⟨ret_bool HE.out.symm, _, by rw [HWR.out, World.drewN_drewN]⟩
              · have hd : decide (x ≤ y) = false := decide_eq_false hxy
                have HK : Hid (∀ i, i < k + 1 + 1 → (lo ≤ xs.getD i 0 ∧ xs.getD i 0 ≤ hi) ∧ (0 < i → xs.getD (i - 1) 0 < xs.getD i 0)) := Lib.hid (fun i hi => by
                  by_cases e : i = k + 1
                  · subst e
                    rw [HG.out, Nat.add_sub_cancel, HY.out]
                    exact ⟨hin', fun _ => by omega⟩
                  · exact HA.out i (by omega))
                clear hxy
                go_wp2_with fail
                go_quiet ((go_at_call 44; go_must (exact quiet_same' (HIN.out _))))
                go_wp2_with fail
                exact ⟨⟨k + 1 + 1, _, by omega, by go_num, HK.out, by rw [HWR.out, World.drewN_drewN]⟩, by simp [intOf]; omega⟩
          · have HIN := Lib.hid (fun w => spIn_val (w := w) hin)
            have HE := Lib.hid (HR2.out.trans (ris_no (lo := lo) (hi := hi) hlt (Or.inl (by
              rw [HG.out]
              have h1 : ¬ (lo ≤ x ∧ x ≤ hi) := of_decide_eq_false hin
              omega))))
            clear hin
            go_wp2_with fail
            go_quiet ((go_at_call 44; go_must (exact quiet_same' (HIN.out _))))
            go_wp2_with fail
            go_ret
            exact ⟨ret_bool HE.out.symm, _, by rw [HWR.out, World.drewN_drewN]⟩
        · have hki : ¬ (k : Int) < (xs.length : Int) := by omega
          have HE := Lib.hid (HR2.out.trans (decide_eq_true (fun i hi => HA.out i (by omega))))
          go_wp2_with fail
          go_ret
          exact ⟨ret_bool HE.out.symm, _, HWR.out⟩
    · have h2' : (most : Int) < (xs.length : Int) := by omega
      have HE := Lib.hid (show R = false by rw [HR.out, risS, decide_eq_false h2]; simp)
      go_enter Tryz.func106, Tryz.ntmps106
      go_wp2_with fail
      go_ret
      exact ⟨ret_bool HE.out.symm, 0, rfl⟩
  · have h1' : ((xs.length : Nat) : Int) < 1 := by omega
    have HE := Lib.hid (show R = false by rw [HR.out, risS, decide_eq_false h1]; rfl)
    go_enter Tryz.func106, Tryz.ntmps106
    go_wp2_with fail
    go_ret
    exact ⟨ret_bool HE.out.symm, 0, rfl⟩

end Go.Proofs.YtlcglclojlffgaaGreatDoor
namespace Go.Proofs.YtlcglclojlffgaaGreatDoor
open Go.RowKit

/-- what the reference says of a family's kind -/
def kindB (kd p k g : Int) (szs : List Int) (cl : Int) : Bool :=
  if kd = 2 then decide (p = 2 ∧ k = 5 ∧ g = 37) && inB cl 1 8 && risS 8 3 24 szs
  else decide (kd = 1) && fldB p k g && decide (cl = 0) && risS 8 17 41 szs && szs.all fun x => x % 4 == 1
theorem fam_eq (nm : ByteArray) (kd p k g : Int) (szs : List Int) (cl : Int) (lvs : List Int) :
    Fam.ok ⟨nm, kd, p, k, g, szs, cl, lvs⟩ = (nameB nm.data.toList && risS 4 1 80 lvs && kindB kd p k g szs cl) := by
  have hm : risB 17 41 szs = true → szs.all msz = szs.all fun x => x % 4 == 1 := fun h => by
    rw [Bool.eq_iff_iff, List.all_eq_true, List.all_eq_true]
    constructor
    · intro h2 x hx
      have := h2 x hx
      simp only [msz, Bool.and_eq_true] at this
      exact this.2
    · intro h2 x hx
      have h3 := ris_in h hx
      simp only [msz, Bool.and_eq_true, decide_eq_true_eq]
      exact ⟨h3, h2 x hx⟩
  rw [Bool.eq_iff_iff]
  simp only [Fam.ok, kindB, risS, Bool.and_eq_true, decide_eq_true_eq]
  by_cases k1 : kd = 1
  · have k2 : ¬ kd = 2 := by omega
    rw [if_pos k1, if_neg k2]
    simp only [Bool.and_eq_true, decide_eq_true_eq]
    constructor
    · rintro ⟨⟨⟨⟨⟨⟨h1, h2⟩, h3⟩, h4⟩, h5⟩, h6⟩, ⟨⟨h7, h8⟩, h9⟩, h10⟩
      exact ⟨⟨h1, ⟨h2, h3⟩, h4⟩, ⟨⟨⟨k1, h8⟩, h9⟩, ⟨h5, h6⟩, h10⟩, by rw [← hm h10]; exact h7⟩
    · rintro ⟨⟨h1, ⟨h2, h3⟩, h4⟩, ⟨⟨⟨-, h8⟩, h9⟩, ⟨h5, h6⟩, h10⟩, h7⟩
      exact ⟨⟨⟨⟨⟨⟨h1, h2⟩, h3⟩, h4⟩, h5⟩, h6⟩, ⟨⟨by rw [hm h10]; exact h7, h8⟩, h9⟩, h10⟩
  · rw [if_neg k1]
    by_cases k2 : kd = 2
    · rw [if_pos k2, if_pos k2]
      simp only [Bool.and_eq_true, decide_eq_true_eq, inB]
      constructor
      · rintro ⟨⟨⟨⟨⟨⟨h1, h2⟩, h3⟩, h4⟩, h5⟩, h6⟩, ⟨⟨⟨⟨h7, h8⟩, h9⟩, h10⟩, h11⟩, h12⟩
        exact ⟨⟨h1, ⟨h2, h3⟩, h4⟩, ⟨⟨h7, h8, h9⟩, h10, h11⟩, ⟨h5, h6⟩, h12⟩
      · rintro ⟨⟨h1, ⟨h2, h3⟩, h4⟩, ⟨⟨h7, h8, h9⟩, h10, h11⟩, ⟨h5, h6⟩, h12⟩
        exact ⟨⟨⟨⟨⟨⟨h1, h2⟩, h3⟩, h4⟩, h5⟩, h6⟩, ⟨⟨⟨⟨h7, h8⟩, h9⟩, h10⟩, h11⟩, h12⟩
    · rw [if_neg k2, if_neg k2]
      simp [k1]
theorem kind_fld {kd p k g : Int} {szs : List Int} {cl : Int} (h : fldB p k g = false) : kindB kd p k g szs cl = false := by
  unfold kindB
  split
  · have : ¬ (p = 2 ∧ k = 5 ∧ g = 37) := by
      rintro ⟨rfl, rfl, rfl⟩
      have h2 : fldB 2 5 37 = true := least5.2.2.2.2.1
      rw [h2] at h; cases h
    rw [decide_eq_false this]; rfl
  · rw [h]; simp
set_option maxRecDepth 100000 in
set_option maxHeartbeats 4000000 in
theorem spFamily_any (nm : ByteArray) (kd p k g : Int) (a1 : Option Addr) (szs : List Int) (c1 : Nat) (cl : Int) (a2 : Option Addr) (lvs : List Int) (c2 : Nat) (w : World) (h1 : IntsAt w a1 szs) (h2 : IntsAt w a2 lvs) (l1 : szs.length ≤ 1048576) (l2 : lvs.length ≤ 1048576) (ln : nm.size ≤ 1048576) :
    Calls Tryz.prog 89 #[(.agg #[.string nm, .int .i64 kd, .int .i64 p, .int .i64 k, .int .i64 g, .slice a1 szs.length c1, .int .i64 cl, .slice a2 lvs.length c2])] w fun e w' => e = .returned (.bool (Fam.ok ⟨nm, kd, p, k, g, szs, cl, lvs⟩)) ∧ Below w.heap.size w w' := by
  have H1 := Lib.hid h1
  have H2 := Lib.hid h2
  obtain ⟨ok, hok⟩ : ∃ ok, ok = Fam.ok ⟨nm, kd, p, k, g, szs, cl, lvs⟩ := ⟨_, rfl⟩
  rw [← hok]
  have HOK := Lib.hid (hok.trans (fam_eq nm kd p k g szs cl lvs))
  clear h1 h2 hok
  go_enter Tryz.func89, Tryz.ntmps89
  go_wp2_with fail
  have hz := push_at w (.cells #[.string nm, .int .i64 kd, .int .i64 p, .int .i64 k, .int .i64 g, .slice a1 szs.length c1, .int .i64 cl, .slice a2 lvs.length c2] 123 (0, 0))
  have HB0 := Lib.hid (ba1 w (.cells #[.string nm, .int .i64 kd, .int .i64 p, .int .i64 k, .int .i64 g, .slice a1 szs.length c1, .int .i64 cl, .slice a2 lvs.length c2] 123 (0, 0)))
  obtain ⟨w1, hw1⟩ : ∃ w1, w1 = w.alloc (.cells #[.string nm, .int .i64 kd, .int .i64 p, .int .i64 k, .int .i64 g, .slice a1 szs.length c1, .int .i64 cl, .slice a2 lvs.length c2] 123 (0, 0)) := ⟨_, rfl⟩
  rw [← hw1] at hz HB0 ⊢
  have HX1 := Lib.hid hz
  obtain ⟨hcA, hfA⟩ := heap_cellR hz
  have hltA := blkLt hz
  clear hw1 hz
  refine (spName_any nm w1 ln).mono ?_
  rintro e w2 ⟨rfl, rfl⟩
  rcases Bool.eq_false_or_eq_true (nameB nm.data.toList) with n1 | n1
  · rw [n1]
    go_wp2_with fail
    refine (spField_any p k g w1).mono ?_
    rintro e w2 ⟨b, rfl, hb1, hb2, hb3⟩
    have HX2 := Lib.hid (blkK hb3 HX1.out)
    have HB2 := Lib.hid (bt0 HB0.out hb3 (Nat.le_refl _))
    clear hb3 hcA hfA hltA
    obtain ⟨hcA, hfA⟩ := heap_cellR HX2.out
    have hltA := blkLt HX2.out
    cases b with
    | false =>
      have HE := Lib.hid (show ok = false by
        rw [HOK.out, kind_fld, Bool.and_false]
        by_cases hk : k = 1
        · rw [hk, fldB_1]
        · exact (hb1 hk).symm)
      clear hb1 hb2
      go_wp2_with fail
      go_ret
      exact ⟨ret_bool HE.out.symm, HB2.out⟩
    | true =>
      have HBt := Lib.hid hb1
      have HBo := Lib.hid hb2
      clear hb1 hb2
      go_wp2_with fail
      refine (spRises_any 4 (by decide) 1 80 a2 lvs c2 w2 (H2.out.below HB2.out) (by omega)).mono ?_
      rintro e w3 ⟨rfl, n3, rfl⟩
      have HX3 := Lib.hid (blkK (below_drewN (Below.refl _ _) n3) HX2.out)
      have HB3 := Lib.hid (bt0 HB2.out (below_drewN (Below.refl _ _) n3) (Nat.le_refl _))
      obtain ⟨w3, hw3⟩ : ∃ w3, w3 = w2.drewN n3 := ⟨_, rfl⟩
      rw [← hw3] at HX3 HB3 ⊢
      clear hcA hfA hltA hw3
      obtain ⟨hcA, hfA⟩ := heap_cellR HX3.out
      have hltA := blkLt HX3.out
      rcases Bool.eq_false_or_eq_true (risS 4 1 80 lvs) with n2 | n2
      · rw [n2]
        have HOK2 := Lib.hid (show ok = kindB kd p k g szs cl by rw [HOK.out, n1, n2]; rfl)
        by_cases k2 : kd = 2
        · subst k2
          go_wp2_with fail
          refine (spFieldOf_32 w3).mono ?_
          rintro e w4 ⟨rfl, hb4⟩
          have HX4 := Lib.hid (blkK hb4 HX3.out)
          have HB4 := Lib.hid (bt0 HB3.out hb4 (Nat.le_refl _))
          clear hb4 hcA hfA hltA
          obtain ⟨hcA, hfA⟩ := heap_cellR HX4.out
          have hltA := blkLt HX4.out
          have HOK3 := Lib.hid (show ok = (decide (p = 2 ∧ k = 5 ∧ g = 37) && inB cl 1 8 && risS 8 3 24 szs) from HOK2.out)
          have HB5 := Lib.hid (bt0 HB4.out (ba1 w4 (.cells #[.int .i64 2, .int .i64 5, .int .i64 37] 121 (0, 0))) (Nat.le_refl _))
          have HX5 := Lib.hid (push_old (A := .cells #[.int .i64 2, .int .i64 5, .int .i64 37] 121 (0, 0)) HX4.out)
          by_cases e1 : p = 2
          · subst e1
            by_cases e2 : k = 5
            · subst e2
              by_cases e3 : g = 37
              · subst e3
                have HOK4 := Lib.hid (show ok = (inB cl 1 8 && risS 8 3 24 szs) by rw [HOK3.out]; rfl)
                go_wp2_with fail
                refine (spIn_any cl 1 8 _).mono ?_
                rintro e w5 ⟨rfl, rfl⟩
                rcases Bool.eq_false_or_eq_true (inB cl 1 8) with i1 | i1
                · rw [i1]
                  have HOK5 := Lib.hid (show ok = risS 8 3 24 szs by rw [HOK4.out, i1]; rfl)
                  obtain ⟨hcB, hfB⟩ := heap_cellR HX5.out
                  have hltB := blkLt HX5.out
                  go_wp2_with fail
                  refine (spRises_any 8 (by decide) 3 24 a1 szs c1 _ (H1.out.below HB5.out) (by omega)).mono ?_
                  rintro e w6 ⟨rfl, n6, rfl⟩
                  have HB6 := Lib.hid (bt0 HB5.out (below_drewN (Below.refl _ _) n6) (Nat.le_refl _))
                  rw [← HOK5.out]
                  go_wp2_with fail
                  go_ret
                  exact ⟨rfl, HB6.out⟩
                · rw [i1]
                  have HE := Lib.hid (show ok = false by rw [HOK4.out, i1]; rfl)
                  go_wp2_with fail
                  go_ret
                  exact ⟨ret_bool HE.out.symm, HB5.out⟩
              · have e3b : (g == 37) = false := by rw [beq_eq_false_iff_ne]; exact e3
                have HE := Lib.hid (show ok = false by rw [HOK3.out, decide_eq_false (fun h => e3 h.2.2)]; rfl)
                go_wp2_with fail
                go_ret
                exact ⟨ret_bool HE.out.symm, HB5.out⟩
            · have e2b : (k == 5) = false := by rw [beq_eq_false_iff_ne]; exact e2
              have HE := Lib.hid (show ok = false by rw [HOK3.out, decide_eq_false (fun h => e2 h.2.1)]; rfl)
              go_wp2_with fail
              go_ret
              exact ⟨ret_bool HE.out.symm, HB5.out⟩
          · have e1b : (p == 2) = false := by rw [beq_eq_false_iff_ne]; exact e1
            have HE := Lib.hid (show ok = false by rw [HOK3.out, decide_eq_false (fun h => e1 h.1)]; rfl)
            go_wp2_with fail
            go_ret
            exact ⟨ret_bool HE.out.symm, HB5.out⟩
        · have k2b : (kd == 2) = false := by rw [beq_eq_false_iff_ne]; exact k2
          have HOK3 := Lib.hid (HOK2.out.trans (if_neg k2))
          by_cases k1 : kd = 1
          · subst k1
            by_cases p2 : p = 2
            · subst p2
              have hf : fldB 2 k g = true := by
                have hk : k ≠ 1 := fun e => by have := HBo.out e trivial; omega
                exact (HBt.out hk).symm
              by_cases c0 : cl = 0
              · subst c0
                have HOK4 := Lib.hid (show ok = (risS 8 17 41 szs && szs.all fun x => x % 4 == 1) by rw [HOK3.out, hf]; rfl)
                clear hf
                go_wp2_with fail
                refine (spRises_any 8 (by decide) 17 41 a1 szs c1 w3 (H1.out.below HB3.out) (by omega)).mono ?_
                rintro e w4 ⟨rfl, n4, rfl⟩
                have HX4 := Lib.hid (blkK (below_drewN (Below.refl _ _) n4) HX3.out)
                have HB4 := Lib.hid (bt0 HB3.out (below_drewN (Below.refl _ _) n4) (Nat.le_refl _))
                obtain ⟨w4, hw4⟩ : ∃ w4, w4 = w3.drewN n4 := ⟨_, rfl⟩
                rw [← hw4] at HX4 HB4 ⊢
                clear hcA hfA hltA hw4
                obtain ⟨hcA, hfA⟩ := heap_cellR HX4.out
                have hltA := blkLt HX4.out
                have HI4 := Lib.hid (H1.out.below HB4.out)
                rcases Bool.eq_false_or_eq_true (risS 8 17 41 szs) with r1 | r1
                · rw [r1]
                  have HOK5 := Lib.hid (show ok = szs.all fun x => x % 4 == 1 by rw [HOK4.out, r1]; rfl)
                  have HRB := Lib.hid (show risB 17 41 szs = true by rw [risS, Bool.and_eq_true] at r1; exact r1.2)
                  go_wp2_with fail
                  go_loopw [5] (fun i wr => ∃ j : Nat, j ≤ szs.length ∧ i = .int .i64 j ∧ (szs.take j).all (fun x => x % 4 == 1) = true ∧ wr = w4) (fun i _ => szs.length - (intOf i).toNat)
                  case atStart => exact ⟨0, Nat.zero_le _, rfl, rfl, rfl⟩
                  case round =>
                    obtain ⟨j, hj, rfl, hall, rfl⟩ := hrel
                    have HA := Lib.hid hall
                    clear hall
                    by_cases hlt : j < szs.length
                    · obtain ⟨b1, o1, x, rfl, hxk, hb1, hc1⟩ := HI4.out.at hlt
                      have hji : (j : Int) < (szs.length : Int) := by omega
                      have hxr := ris_in HRB.out (List.mem_of_getElem? hxk)
                      have HXK := Lib.hid hxk
                      have htm : x.tmod 4 = x % 4 := Int.tmod_eq_emod_of_nonneg (by omega)
                      have hwr : IntKind.i64.wrap (x % 4) = x % 4 := by rw [IntKind.wrap_i64]; omega
                      clear hxk
                      cases hm : (x % 4 == 1) with
                      | true =>
                        have hmb : (x % 4 != 1) = false := by rw [bne, hm]; rfl
                        have HAL := Lib.hid (show (szs.take (j + 1)).all (fun x => x % 4 == 1) = true by rw [take_snoc' HXK.out, List.all_append, HA.out]; simp [hm])
                        clear hm
                        go_wp2_with fail
                        exact ⟨⟨j + 1, by omega, by push_cast; rfl, HAL.out, trivial⟩, by simp [intOf]; omega⟩
                      | false =>
                        have hmb : (x % 4 != 1) = true := by rw [bne, hm]; rfl
                        have HE := Lib.hid (show ok = false by
                          rw [HOK5.out, List.all_eq_false]
                          exact ⟨x, List.mem_of_getElem? HXK.out, by simp [hm]⟩)
                        clear hm
                        go_wp2_with fail
                        go_ret
                        exact ⟨ret_bool HE.out.symm, HB4.out⟩
                    · have hji : ¬ (j : Int) < (szs.length : Int) := by omega
                      have HE := Lib.hid (show ok = true by
                        have h1 := HA.out
                        rw [List.take_of_length_le (by omega)] at h1
                        rw [HOK5.out, h1])
                      go_wp2_with fail
                      go_ret
                      exact ⟨ret_bool HE.out.symm, HB4.out⟩
                · rw [r1]
                  have HE := Lib.hid (show ok = false by rw [HOK4.out, r1]; rfl)
                  go_wp2_with fail
                  go_ret
                  exact ⟨ret_bool HE.out.symm, HB4.out⟩
              · have c0b : (cl != 0) = true := by rw [bne_iff_ne]; exact c0
                have HE := Lib.hid (show ok = false by rw [HOK3.out, decide_eq_false c0]; simp)
                clear hf
                go_wp2_with fail
                go_ret
                exact ⟨ret_bool HE.out.symm, HB3.out⟩
            · have p2b : (p != 2) = true := by rw [bne_iff_ne]; exact p2
              have HE := Lib.hid (show ok = false by rw [HOK3.out, fldB, decide_eq_false p2]; simp)
              go_wp2_with fail
              go_ret
              exact ⟨ret_bool HE.out.symm, HB3.out⟩
          · have k1b : (kd != 1) = true := by rw [bne_iff_ne]; exact k1
            have HE := Lib.hid (show ok = false by rw [HOK3.out, decide_eq_false k1]; rfl)
            go_wp2_with fail
            go_ret
            exact ⟨ret_bool HE.out.symm, HB3.out⟩
      · rw [n2]
        have HE := Lib.hid (show ok = false by rw [HOK.out, n2]; simp)
        go_wp2_with fail
        go_ret
        exact ⟨ret_bool HE.out.symm, HB3.out⟩
  · rw [n1]
    have HE := Lib.hid (show ok = false by rw [HOK.out, n1]; rfl)
    go_wp2_with fail
    go_ret
    exact ⟨ret_bool HE.out.symm, HB0.out⟩

end Go.Proofs.YtlcglclojlffgaaGreatDoor
namespace Go.Proofs.YtlcglclojlffgaaGreatDoor
open Go.RowKit

set_option maxRecDepth 100000 in
theorem spHas_any (a : Option Addr) (xs : List Int) (c : Nat) (n : Int) (w : World) (hx : IntsAt w a xs) (lx : xs.length ≤ 1099511627776) :
    Calls Tryz.prog 123 #[.slice a xs.length c, .int .i64 n] w fun e w' => e = .returned (.bool (hasI xs n)) ∧ w = w' := by
  have HX := Lib.hid hx
  clear hx
  go_enter Tryz.func123, Tryz.ntmps123
  go_wp2_with fail
  go_loopw [5] (fun i wr => ∃ k : Nat, k ≤ xs.length ∧ i = .int .i64 k ∧ (∀ j, j < k → xs.getD j 0 ≠ n) ∧ wr = w) (fun i _ => xs.length - (intOf i).toNat)
  case atStart => exact ⟨0, Nat.zero_le _, rfl, fun j h => by omega, rfl⟩
  case round =>
    obtain ⟨k, hk, rfl, hall, rfl⟩ := hrel
    have HA := Lib.hid hall
    clear hall
    by_cases hlt : k < xs.length
    · obtain ⟨b1, o1, x, rfl, hxk, hb1, hc1⟩ := HX.out.at hlt
      have hki : (k : Int) < (xs.length : Int) := by omega
      have HG := Lib.hid (getD_of hxk)
      have HXK := Lib.hid hxk
      clear hxk
      by_cases hxn : x = n
      · subst hxn
        have HE := Lib.hid (show hasI xs x = true by rw [hasI, List.contains_iff_mem]; exact List.mem_of_getElem? HXK.out)
        go_wp2_with fail
        go_ret
        exact ⟨ret_bool HE.out.symm, rfl⟩
      · have hxb : (x == n) = false := by rw [beq_eq_false_iff_ne]; exact hxn
        have HK : Hid (∀ j, j < k + 1 → xs.getD j 0 ≠ n) := Lib.hid (fun j hj => by
          by_cases e : j = k
          · subst e; rw [HG.out]; exact hxn
          · exact HA.out j (by omega))
        clear hxn
        go_wp2_with fail
        exact ⟨⟨k + 1, by omega, by push_cast; rfl, HK.out, trivial⟩, by simp [intOf]; omega⟩
    · have hki : ¬ (k : Int) < (xs.length : Int) := by omega
      have HE := Lib.hid (hasI_no (fun j hj => HA.out j (by omega)))
      go_wp2_with fail
      go_ret
      exact ⟨ret_bool HE.out.symm, rfl⟩
/-- the code of a family and a size -/
def famC (f : Fam) (n : Int) : Int := if f.ok = true then (if hasI f.sizes n = true then 0 else 2) else 1
set_option maxRecDepth 100000 in
set_option maxHeartbeats 1000000 in
theorem spCode_any (nm : ByteArray) (kd p k g : Int) (a1 : Option Addr) (szs : List Int) (c1 : Nat) (cl : Int) (a2 : Option Addr) (lvs : List Int) (c2 : Nat) (n : Int) (w : World) (h1 : IntsAt w a1 szs) (h2 : IntsAt w a2 lvs) (l1 : szs.length ≤ 1048576) (l2 : lvs.length ≤ 1048576) (ln : nm.size ≤ 1048576) :
    Calls Tryz.prog 109 #[(.agg #[.string nm, .int .i64 kd, .int .i64 p, .int .i64 k, .int .i64 g, .slice a1 szs.length c1, .int .i64 cl, .slice a2 lvs.length c2]), .int .i64 n] w fun e w' => e = .returned (.int .i64 (famC ⟨nm, kd, p, k, g, szs, cl, lvs⟩ n)) ∧ Below w.heap.size w w' := by
  have H1 := Lib.hid h1
  have H2 := Lib.hid h2
  obtain ⟨f, hf⟩ : ∃ f, f = Fam.mk nm kd p k g szs cl lvs := ⟨_, rfl⟩
  have HFI := Lib.hid (fun w (h1 : IntsAt w a1 szs) (h2 : IntsAt w a2 lvs) => spFamily_any nm kd p k g a1 szs c1 cl a2 lvs c2 w h1 h2 l1 l2 ln)
  rw [← hf] at HFI ⊢
  have HS := Lib.hid (show f.sizes = szs by rw [hf])
  clear h1 h2 hf
  go_enter Tryz.func109, Tryz.ntmps109
  go_wp2_with fail
  have hz := push_at w (.cells #[.string nm, .int .i64 kd, .int .i64 p, .int .i64 k, .int .i64 g, .slice a1 szs.length c1, .int .i64 cl, .slice a2 lvs.length c2] 123 (0, 0))
  have HB0 := Lib.hid (ba1 w (.cells #[.string nm, .int .i64 kd, .int .i64 p, .int .i64 k, .int .i64 g, .slice a1 szs.length c1, .int .i64 cl, .slice a2 lvs.length c2] 123 (0, 0)))
  obtain ⟨w1, hw1⟩ : ∃ w1, w1 = w.alloc (.cells #[.string nm, .int .i64 kd, .int .i64 p, .int .i64 k, .int .i64 g, .slice a1 szs.length c1, .int .i64 cl, .slice a2 lvs.length c2] 123 (0, 0)) := ⟨_, rfl⟩
  rw [← hw1] at hz HB0 ⊢
  have HX1 := Lib.hid hz
  clear hw1 hz
  refine (HFI.out w1 (H1.out.below HB0.out) (H2.out.below HB0.out)).mono ?_
  rintro e w2 ⟨rfl, hb2⟩
  have HX2 := Lib.hid (blkK hb2 HX1.out)
  have HB2 := Lib.hid (bt0 HB0.out hb2 (Nat.le_refl _))
  obtain ⟨hcA, hfA⟩ := heap_cellR HX2.out
  have hltA := blkLt HX2.out
  clear hb2
  rcases Bool.eq_false_or_eq_true f.ok with o1 | o1
  · rw [o1]
    go_wp2_with fail
    refine (spHas_any a1 szs c1 n w2 (H1.out.below HB2.out) (by omega)).mono ?_
    rintro e w3 ⟨rfl, rfl⟩
    rcases Bool.eq_false_or_eq_true (hasI szs n) with s1 | s1
    · rw [s1]
      have HE := Lib.hid (show famC f n = 0 by rw [famC, if_pos o1, HS.out, if_pos s1])
      go_wp2_with fail
      go_ret
      exact ⟨ret_int HE.out.symm, HB2.out⟩
    · rw [s1]
      have HE := Lib.hid (show famC f n = 2 by rw [famC, if_pos o1, HS.out, if_neg (by rw [s1]; decide)])
      go_wp2_with fail
      go_ret
      exact ⟨ret_int HE.out.symm, HB2.out⟩
  · rw [o1]
    have HE := Lib.hid (show famC f n = 1 by rw [famC, if_neg (by rw [o1]; decide)])
    go_wp2_with fail
    go_ret
    exact ⟨ret_int HE.out.symm, HB2.out⟩

end Go.Proofs.YtlcglclojlffgaaGreatDoor
namespace Go.Proofs.YtlcglclojlffgaaGreatDoor
open Go.RowKit

set_option maxHeartbeats 1000000 in
theorem spShare_any (p k g d c n b : Int) (w : World) (hd : 0 ≤ d) (hd2 : d ≤ 1500) (hn : 1 ≤ n) (hn2 : n ≤ 16) :
    Calls Tryz.prog 138 #[.agg #[.int .i64 p, .int .i64 k, .int .i64 g, .int .i64 d, .int .i64 c, .int .i64 n], .int .i64 b] w fun e w' => e = .returned (.int .i64 (Lay.share ⟨d, c, n⟩ b)) ∧ Below w.heap.size w w' := by
  have h1 : 0 ≤ d % n := Int.emod_nonneg _ (by omega)
  have h2 : d % n < n := Int.emod_lt_of_pos _ (by omega)
  have h3 : 0 ≤ d / n := Int.ediv_nonneg hd (by omega)
  have h4 : d / n ≤ d := Int.ediv_le_self _ hd
  have HS := Lib.hid (show Lay.share ⟨d, c, n⟩ b = d / n + if n - d % n ≤ b then 1 else 0 from rfl)
  have e1 : d.tmod n = d % n := Int.tmod_eq_emod_of_nonneg hd
  have e2 : d.tdiv n = d / n := Int.tdiv_eq_ediv_of_nonneg hd
  obtain ⟨r, hr⟩ : ∃ r, r = d % n := ⟨_, rfl⟩
  obtain ⟨q, hq⟩ : ∃ q, q = d / n := ⟨_, rfl⟩
  rw [← hr] at h1 h2 e1 HS
  rw [← hq] at h3 h4 e2 HS
  have e1' : d % n = r := hr.symm
  have e2' : d / n = q := hq.symm
  clear hr hq
  by_cases hb : n - r ≤ b
  · have hbd : decide (n - r ≤ b) = true := decide_eq_true hb
    have HE := Lib.hid (HS.out.trans (by rw [if_pos hb]))
    go_enter Tryz.func138, Tryz.ntmps138
    go_wp2_with fail
    go_quiet (fail)
    go_wp2_with fail
    go_ret
    exact ⟨ret_int HE.out.symm, (ba1 _ _).trans (below_drewN (Below.refl _ _) nq)⟩
  · have hbd : decide (n - r ≤ b) = false := decide_eq_false hb
    have HE := Lib.hid (HS.out.trans (by rw [if_neg hb, Int.add_zero]))
    go_enter Tryz.func138, Tryz.ntmps138
    go_wp2_with fail
    go_quiet (fail)
    go_wp2_with fail
    go_ret
    exact ⟨ret_int HE.out.symm, (ba1 _ _).trans (below_drewN (Below.refl _ _) nq)⟩
set_option maxHeartbeats 1000000 in
theorem spBlock_any (p k g d c n b : Int) (w : World) (hd : 0 ≤ d) (hd2 : d ≤ 1500) (hc : 0 ≤ c) (hc2 : c ≤ 1000) (hn : 1 ≤ n) (hn2 : n ≤ 16) :
    Calls Tryz.prog 126 #[.agg #[.int .i64 p, .int .i64 k, .int .i64 g, .int .i64 d, .int .i64 c, .int .i64 n], .int .i64 b] w fun e w' => e = .returned (.agg #[.int .i64 p, .int .i64 k, .int .i64 g, .int .i64 (Lay.share ⟨d, c, n⟩ b + c), .int .i64 c]) ∧ Below w.heap.size w w' := by
  have hs := share_bd (c := c) (b := b) hd hd2 hn
  obtain ⟨s, hS⟩ : ∃ s, s = Lay.share ⟨d, c, n⟩ b := ⟨_, rfl⟩
  have HS := Lib.hid hS
  rw [← hS] at hs
  clear hS
  go_enter Tryz.func126, Tryz.ntmps126
  go_wp2_with fail
  have hbox1 := heap2 w (.cells #[.int .i64 p, .int .i64 k, .int .i64 g, .int .i64 d, .int .i64 c, .int .i64 n] 146 (0, 0)) (.cells #[.int .i64 0, .int .i64 0, .int .i64 0, .int .i64 0, .int .i64 0] 189 (0, 0))
  have HB := Lib.hid (ba2 w (.cells #[.int .i64 p, .int .i64 k, .int .i64 g, .int .i64 d, .int .i64 c, .int .i64 n] 146 (0, 0)) (.cells #[.int .i64 0, .int .i64 0, .int .i64 0, .int .i64 0, .int .i64 0] 189 (0, 0)))
  obtain ⟨W, hW⟩ : ∃ W, W = (w.alloc (.cells #[.int .i64 p, .int .i64 k, .int .i64 g, .int .i64 d, .int .i64 c, .int .i64 n] 146 (0, 0))).alloc (.cells #[.int .i64 0, .int .i64 0, .int .i64 0, .int .i64 0, .int .i64 0] 189 (0, 0)) := ⟨_, rfl⟩
  rw [← hW] at hbox1 HB ⊢
  clear hW
  obtain ⟨hc1, hf1⟩ := heap_cellR hbox1.1
  obtain ⟨hc3, hf3⟩ := heap_cellR hbox1.2
  have hz1 : w.heap.size < W.heap.size := blkLt hbox1.1
  have hz3 : w.heap.size + 1 < W.heap.size := blkLt hbox1.2
  clear hbox1
  refine wp_region_ext_tail 11 (by kernel_rfl) (by kernel_rfl) ?_
  simp only [List.take_succ_cons, List.take_zero, List.drop_succ_cons, List.drop_zero]
  repeat (go_big_quiet_step ((go_at_call 138; go_must (exact calls_ext _ (spShare_any p k g d c n b _ hd hd2 hn hn2)))))
  refine wpQuiet_nil ?_
  rintro _ ⟨s', rfl⟩
  have hz' : w.heap.size + 1 < s'.w.heap.size := by have := s'.below.size; omega
  have HB2 := Lib.hid (bt0 HB.out s'.below (Nat.le_refl _))
  have hw : wrap64 (s + c) = s + c := by unfold wrap64; omega
  rw [← HS.out]
  go_wp2_with fail
  refine bodyPost_ret (v := .agg #[.int .i64 p, .int .i64 k, .int .i64 g, .int .i64 (s + c), .int .i64 c]) (by simp [results, Tryz.results126, go_sem, hc3, hz3, hw]) rfl ⟨by rw [HS.out], ?_⟩
  iterate 5 (refine Below.setCell ?_ (by dsimp only; omega) _)
  exact HB2.out

theorem spIn_below {n lo hi : Int} {b : Bool} {w : World} (h : inB n lo hi = b) :
    Calls Tryz.prog 44 #[.int .i64 n, .int .i64 lo, .int .i64 hi] w fun e w' => e = .returned (.bool b) ∧ Below w.heap.size w w' :=
  (spIn_val h).mono fun _ _ ⟨h1, h2⟩ => ⟨h1, h2 ▸ Below.refl _ _⟩
set_option maxRecDepth 100000 in
set_option maxHeartbeats 1000000 in
theorem spIsCode_any {p k g : Int} {F : Fd} (h : FV p k g F) (len chk : Int) (w : World) :
    Calls Tryz.prog 125 #[.agg #[.int .i64 p, .int .i64 k, .int .i64 g, .int .i64 len, .int .i64 chk]] w fun e w' => e = .returned (.bool (codB F.q len chk)) ∧ Below w.heap.size w w' := by
  have H := Lib.hid h
  have hq := h.fd.q_bd
  have HV := Lib.hid (fun w => h.v ▸ spSize_any F h.r.toFdB w)
  clear h
  go_enter Tryz.func125, Tryz.ntmps125
  go_wp2_with fail
  have hz := push_at w (.cells #[.int .i64 p, .int .i64 k, .int .i64 g, .int .i64 len, .int .i64 chk] 189 (0, 0))
  have HB0 := Lib.hid (ba1 w (.cells #[.int .i64 p, .int .i64 k, .int .i64 g, .int .i64 len, .int .i64 chk] 189 (0, 0)))
  obtain ⟨w1, hw1⟩ : ∃ w1, w1 = w.alloc (.cells #[.int .i64 p, .int .i64 k, .int .i64 g, .int .i64 len, .int .i64 chk] 189 (0, 0)) := ⟨_, rfl⟩
  rw [← hw1] at hz HB0 ⊢
  have HX1 := Lib.hid hz
  clear hw1 hz
  refine (spField_yes H.out.b w1).mono ?_
  rintro e w2 ⟨rfl, hb2⟩
  have HX2 := Lib.hid (blkK hb2 HX1.out)
  have HB2 := Lib.hid (bt0 HB0.out hb2 (Nat.le_refl _))
  obtain ⟨hcA, hfA⟩ := heap_cellR HX2.out
  have hltA := blkLt HX2.out
  clear hb2
  go_wp2_with fail
  refine (spIn_any chk 1 64 w2).mono ?_
  rintro e w3 ⟨rfl, rfl⟩
  rcases Bool.eq_false_or_eq_true (inB chk 1 64) with h1 | h1
  · rw [h1]
    have hc := inB_iff.1 h1
    have hw : wrap64 (chk + 1) = chk + 1 := by unfold wrap64; omega
    rcases Bool.eq_false_or_eq_true (inB len (chk + 1) 255) with h2 | h2
    · have hl := inB_iff.1 h2
      have HI := Lib.hid (fun w => spIn_below (w := w) h2)
      by_cases h3 : len < F.q
      · have HE := Lib.hid (show codB F.q len chk = true by simp [codB]; omega)
        have h3' : decide (len < (F.q : Int)) = true := decide_eq_true h3
        clear h3 hw
        go_wp2_with fail
        refine wp_region_ext (by kernel_rfl) (by kernel_rfl) ?_
        repeat (go_big_quiet_step ((first
          | (go_at_call 44; go_must (exact calls_ext _ (HI.out _)))
          | (go_at_call 122; go_must (exact calls_ext _ (HV.out _))))))
        refine wpQuiet_nil ?_
        rintro _ ⟨s', rfl⟩
        go_wp2_with fail
        go_ret
        exact ⟨ret_bool HE.out.symm, bt0 HB2.out s'.below (Nat.le_refl _)⟩
      · have HE := Lib.hid (show codB F.q len chk = false by simp [codB]; omega)
        have h3' : decide (len < (F.q : Int)) = false := decide_eq_false h3
        clear h3 hw
        go_wp2_with fail
        refine wp_region_ext (by kernel_rfl) (by kernel_rfl) ?_
        repeat (go_big_quiet_step ((first
          | (go_at_call 44; go_must (exact calls_ext _ (HI.out _)))
          | (go_at_call 122; go_must (exact calls_ext _ (HV.out _))))))
        refine wpQuiet_nil ?_
        rintro _ ⟨s', rfl⟩
        go_wp2_with fail
        go_ret
        exact ⟨ret_bool HE.out.symm, bt0 HB2.out s'.below (Nat.le_refl _)⟩
    · have HI := Lib.hid (fun w => spIn_below (w := w) h2)
      have HE := Lib.hid (show codB F.q len chk = false by
        have h4 : ¬ (chk + 1 ≤ len ∧ len ≤ 255) := of_decide_eq_false h2
        simp [codB]; omega)
      clear hw
      go_wp2_with fail
      refine wp_region_ext (by kernel_rfl) (by kernel_rfl) ?_
      repeat (go_big_quiet_step ((go_at_call 44; go_must (exact calls_ext _ (HI.out _)))))
      refine wpQuiet_nil ?_
      rintro _ ⟨s', rfl⟩
      go_wp2_with fail
      go_ret
      exact ⟨ret_bool HE.out.symm, bt0 HB2.out s'.below (Nat.le_refl _)⟩
  · rw [h1]
    have HE := Lib.hid (show codB F.q len chk = false by
      have h4 : ¬ (1 ≤ chk ∧ chk ≤ 64) := of_decide_eq_false h1
      simp [codB]; omega)
    go_wp2_with fail
    go_ret
    exact ⟨ret_bool HE.out.symm, HB2.out⟩

end Go.Proofs.YtlcglclojlffgaaGreatDoor
namespace Go.Proofs.YtlcglclojlffgaaGreatDoor
open Go.RowKit

theorem IntBlk.last {W : World} {b : Nat} {l : List Int} (hb : b = W.heap.size) : IntBlk (W.alloc (intsO l)) b l := by subst hb; exact push_at _ _
theorem IntBlk.up {W : World} {o : Obj} {b : Nat} {l : List Int} (h : IntBlk W b l) : IntBlk (W.alloc o) b l := h.below (ba1 _ _)
/-- a row of families written at once -/
theorem World.ownsRow_lit' {W : World} {base b : Nat} {xs : List FmR} {C : Array Value} (hb : base ≤ W.heap.size) (he : b = W.heap.size) (hC : C.toList = xs.flatMap fmE.enc) (hl : xs.length = 5 := by rfl) : fmE.Own (W.alloc (.cells C 123 (0, 0))) base (.slice (some ⟨b, 0, none⟩) 5 5) xs := by
  subst he
  have h := World.ownsRow_lit (base := base) (e := 123) (size := 8) W C 5 hb (by unfold maxLen; omega) (by
    have h2 := fmE.flat_len xs
    rw [← hC, hl] at h2
    exact h2)
  unfold Enc.Own
  rw [hl, ← hC]
  exact h
set_option maxRecDepth 100000 in
set_option maxHeartbeats 8000000 in
theorem spLibrary_any (w : World) :
    Calls Tryz.prog 88 #[] w fun e w' => ∃ v xs, e = .returned v ∧ xs.map FmR.f = libF ∧ fmE.Own w' w.heap.size v xs ∧ (∀ y ∈ xs, IntBlk w' y.b1 y.f.sizes ∧ IntBlk w' y.b2 y.f.levels) ∧ Below w.heap.size w w' := by
  go_enter Tryz.func88, Tryz.ntmps88
  go_wp2_with fail
  refine (spFieldOf_any 16 4 19 (by decide) least4 _).mono ?_
  rintro e w1 ⟨rfl, hb1⟩
  have HB1 := Lib.hid hb1
  clear hb1
  go_wp2_with fail
  refine (spFieldOf_any 64 6 67 (by decide) least6 _).mono ?_
  rintro e w2 ⟨rfl, hb2⟩
  have KA2 := Lib.hid (blkK hb2 (push_at _ _))
  have HB2 := Lib.hid (bt0 (bt0 HB1.out (ba1 _ _) (Nat.le_refl _)) hb2 (Nat.le_refl _))
  clear hb2
  go_wp2_with fail
  refine (spFieldOf_any 256 8 285 (by decide) least8 _).mono ?_
  rintro e w3 ⟨rfl, hb3⟩
  have KA3 := Lib.hid (blkK hb3 (blkK (ba1 _ _) KA2.out))
  have KB3 := Lib.hid (blkK hb3 (push_at _ _))
  have HB3 := Lib.hid (bt0 (bt0 HB2.out (ba1 _ _) (Nat.le_refl _)) hb3 (Nat.le_refl _))
  clear hb3
  go_wp2_with fail
  refine (spFieldOf_any 32 5 37 (by decide) least5 _).mono ?_
  rintro e w4 ⟨rfl, hb4⟩
  have KA4 := Lib.hid (blkK hb4 (blkK (ba1 _ _) KA3.out))
  have KB4 := Lib.hid (blkK hb4 (blkK (ba1 _ _) KB3.out))
  have KC4 := Lib.hid (blkK hb4 (push_at _ _))
  have HB4 := Lib.hid (bt0 (bt0 HB3.out (ba1 _ _) (Nat.le_refl _)) hb4 (Nat.le_refl _))
  clear hb4
  obtain ⟨hcA, hfA⟩ := heap_cellR KA4.out
  obtain ⟨hcB, hfB⟩ := heap_cellR KB4.out
  obtain ⟨hcC, hfC⟩ := heap_cellR KC4.out
  have zA := blkLt KA4.out
  have zB := blkLt KB4.out
  have zC := blkLt KC4.out
  have zB1 : w2.heap.size < w4.heap.size + 1 := by omega
  have zB2 : w2.heap.size < w4.heap.size + 1 + 1 := by omega
  have zC1 : w3.heap.size < w4.heap.size + 1 := by omega
  have zC2 : w3.heap.size < w4.heap.size + 1 + 1 := by omega
  have zC3 : w3.heap.size < w4.heap.size + 1 + 1 + 1 := by omega
  have zC4 : w3.heap.size < w4.heap.size + 1 + 1 + 1 + 1 := by omega
  have zD1 : w4.heap.size < w4.heap.size + 1 := by omega
  have zD2 : w4.heap.size < w4.heap.size + 1 + 1 := by omega
  have zD3 : w4.heap.size < w4.heap.size + 1 + 1 + 1 := by omega
  have zD4 : w4.heap.size < w4.heap.size + 1 + 1 + 1 + 1 := by omega
  have zD5 : w4.heap.size < w4.heap.size + 1 + 1 + 1 + 1 + 1 := by omega
  have zD6 : w4.heap.size < w4.heap.size + 1 + 1 + 1 + 1 + 1 + 1 := by omega
  have zD7 : w4.heap.size < w4.heap.size + 1 + 1 + 1 + 1 + 1 + 1 + 1 := by omega
  have zD8 : w4.heap.size < w4.heap.size + 1 + 1 + 1 + 1 + 1 + 1 + 1 + 1 := by omega
  go_wp2_with fail
  go_ret
  refine ⟨_, [⟨⟨⟨#[116, 105, 108, 101]⟩, 1, 2, 4, 19, [17, 21, 25], 0, [20, 40]⟩, (w4.heap.size + 1), (w4.heap.size + 1 + 1)⟩, ⟨⟨⟨#[112, 97, 110, 101, 108]⟩, 1, 2, 6, 67, [17, 21, 25, 29, 33], 0, [15, 30, 60]⟩, (w4.heap.size + 1 + 1 + 1), (w4.heap.size + 1 + 1 + 1 + 1)⟩, ⟨⟨⟨#[112, 108, 97, 116, 101]⟩, 1, 2, 8, 285, [17, 21, 25, 29, 33, 37, 41], 0, [10, 20, 30, 50]⟩, (w4.heap.size + 1 + 1 + 1 + 1 + 1), (w4.heap.size + 1 + 1 + 1 + 1 + 1 + 1)⟩,
    ⟨⟨⟨#[115, 116, 97, 99, 107]⟩, 2, 2, 5, 37, [4, 6, 8, 12, 16, 24], 4, [25, 50]⟩, (w4.heap.size + 1 + 1 + 1 + 1 + 1 + 1 + 1), (w4.heap.size + 1 + 1 + 1 + 1 + 1 + 1 + 1 + 1)⟩, ⟨⟨⟨#[114, 105, 98, 98, 111, 110]⟩, 2, 2, 5, 37, [3, 4, 5], 8, [30]⟩, (w4.heap.size + 1 + 1 + 1 + 1 + 1 + 1 + 1 + 1 + 1), (w4.heap.size + 1 + 1 + 1 + 1 + 1 + 1 + 1 + 1 + 1 + 1)⟩], rfl, rfl, ?_, ?_, ?_⟩
  · have hw4 := HB4.out.size
    exact World.ownsRow_lit' (by simp; omega) (by simp) rfl
  · intro y hy
    simp only [List.mem_cons, List.not_mem_nil, or_false] at hy
    rcases hy with rfl | rfl | rfl | rfl | rfl
    · constructor
      · iterate 10 (refine IntBlk.up ?_)
        exact IntBlk.last (l := [17, 21, 25]) (by simp)
      · iterate 9 (refine IntBlk.up ?_)
        exact IntBlk.last (l := [20, 40]) (by simp)
    · constructor
      · iterate 8 (refine IntBlk.up ?_)
        exact IntBlk.last (l := [17, 21, 25, 29, 33]) (by simp)
      · iterate 7 (refine IntBlk.up ?_)
        exact IntBlk.last (l := [15, 30, 60]) (by simp)
    · constructor
      · iterate 6 (refine IntBlk.up ?_)
        exact IntBlk.last (l := [17, 21, 25, 29, 33, 37, 41]) (by simp)
      · iterate 5 (refine IntBlk.up ?_)
        exact IntBlk.last (l := [10, 20, 30, 50]) (by simp)
    · constructor
      · iterate 4 (refine IntBlk.up ?_)
        exact IntBlk.last (l := [4, 6, 8, 12, 16, 24]) (by simp)
      · iterate 3 (refine IntBlk.up ?_)
        exact IntBlk.last (l := [25, 50]) (by simp)
    · constructor
      · iterate 2 (refine IntBlk.up ?_)
        exact IntBlk.last (l := [3, 4, 5]) (by simp)
      · iterate 1 (refine IntBlk.up ?_)
        exact IntBlk.last (l := [30]) (by simp)
  · have hw4 := HB4.out.size
    iterate 11 (refine Below.alloc ?_ (by simp; omega) _)
    refine Below.alloc ?_ hw4 _
    exact HB4.out

end Go.Proofs.YtlcglclojlffgaaGreatDoor
namespace Go.Proofs.YtlcglclojlffgaaGreatDoor
open Go.RowKit

set_option maxRecDepth 100000 in
set_option maxHeartbeats 4000000 in
theorem spFamilyNamed_any (nm : ByteArray) (w : World) :
    Calls Tryz.prog 73 #[.string nm] w (RetFN w (famN nm)) := by
  obtain ⟨O, hO⟩ : ∃ O, O = famN nm := ⟨_, rfl⟩
  have HO := Lib.hid hO
  rw [← hO]
  clear hO
  have HR0 := Lib.hid (push_at w (.cells #[.string ⟨#[]⟩, .int .i64 0, .int .i64 0, .int .i64 0, .int .i64 0, .slice none 0 0, .int .i64 0, .slice none 0 0] 123 (0, 0)))
  go_enter Tryz.func73, Tryz.ntmps73
  go_wp2_with fail
  refine (spLibrary_any _).mono ?_
  rintro e w1 ⟨v, xs, rfl, hx, ho, hi, hb⟩
  obtain ⟨a, c, rfl⟩ := ho.read
  have hl : xs.length = 5 := by have := congrArg List.length hx; simpa [libF] using this
  have HF := Lib.hid (HO.out.trans (famN_map hx nm))
  have HR1 := Lib.hid (blkK hb HR0.out)
  have HA := Lib.hid ho.at
  have HI := Lib.hid hi
  have HB1 := Lib.hid (bt1 hb)
  have hz1 : w.heap.size < w1.heap.size := blkLt HR1.out
  clear ho hi hb hx
  go_wp2_with fail
  go_loopw [5] (fun i wr => ∃ k : Nat, k ≤ xs.length ∧ i = .int .i64 k ∧ (xs.take k).find? (fun r => decide (r.f.name = nm)) = none ∧ Below w1.heap.size w1 wr) (fun i _ => xs.length - (intOf i).toNat)
  case atStart => exact ⟨0, Nat.zero_le _, rfl, rfl, Below.refl _ _⟩
  case round =>
    obtain ⟨k, hk, rfl, hnone, hbr⟩ := hrel
    have HNO := Lib.hid hnone
    have HBR := Lib.hid hbr
    have KR := Lib.hid (blkK hbr HR1.out)
    obtain ⟨hcR, hfR⟩ := heap_cellR KR.out
    have hltR := blkLt KR.out
    clear hnone hbr
    by_cases hlt : k < xs.length
    · have hki : (k : Int) < 5 := by omega
      obtain ⟨r, hr⟩ : ∃ r, xs[k]? = some r := by rw [List.getElem?_eq_getElem hlt]; exact ⟨_, rfl⟩
      have HXK := Lib.hid hr
      have hm := List.mem_of_getElem? hr
      obtain ⟨b, o, rfl, hbl, c0, c1, c2, c3, c4, c5, c6, c7⟩ := fm_at (HA.out.below HBR.out) hr
      by_cases hq : r.f.name = nm
      · have HD := Lib.hid (show O = some r.f by rw [HF.out, find_hit HXK.out HNO.out (decide_eq_true hq)]; rfl)
        have hqd : (r.f.name.toList == nm.toList) = true := by rw [hq]; simp
        have HJ := Lib.hid (HI.out r hm)
        clear hr hm
        have HBA := Lib.hid (HJ.out.1.below HBR.out)
        have HBC := Lib.hid (HJ.out.2.below HBR.out)
        have hn1 := blk_ne HBA.out KR.out (by decide)
        have hn2 := blk_ne HBC.out KR.out (by decide)
        clear hq
        go_wp2_with fail
        refine bodyPost_ret (v := .tuple #[.agg #[.string r.f.name, .int .i64 r.f.kind, .int .i64 r.f.fp, .int .i64 r.f.fk, .int .i64 r.f.fg, .slice (some ⟨r.b1, 0, none⟩) r.f.sizes.length r.f.sizes.length, .int .i64 r.f.cols, .slice (some ⟨r.b2, 0, none⟩) r.f.levels.length r.f.levels.length], .int .i64 0]) (by simp [results, Tryz.results73, go_sem, hcR]) rfl ⟨?_, .inl ⟨r.f, r.b1, r.b2, HD.out, rfl, ?_, ?_⟩⟩
        · iterate 8 (refine Below.setCell ?_ (by dsimp only; omega) _)
          exact bt0 HB1.out HBR.out (Nat.le_refl _)
        · iterate 8 (refine IntBlk.set ?_ hn1)
          exact HBA.out
        · iterate 8 (refine IntBlk.set ?_ hn2)
          exact HBC.out
      · have HN2 := Lib.hid (find_miss HXK.out HNO.out (decide_eq_false hq))
        have hqd : (r.f.name.toList == nm.toList) = false := by
          rw [beq_eq_false_iff_ne, ne_eq, ByteArray.toList_eq, ByteArray.toList_eq]; exact fun e => hq (ByteArray.ext (Array.toList_inj.1 e))
        clear hr hm hq
        go_wp2_with fail
        exact ⟨⟨k + 1, by omega, by go_num, HN2.out, HBR.out⟩, by simp [intOf]; omega⟩
    · have hki : ¬ (k : Int) < 5 := by omega
      have HD := Lib.hid (show O = none by
        have h := HNO.out
        rw [List.take_of_length_le (by omega)] at h
        rw [HF.out, h]; rfl)
      go_wp2_with fail
      refine bodyPost_ret (v := .tuple #[.agg #[.string ⟨#[]⟩, .int .i64 0, .int .i64 0, .int .i64 0, .int .i64 0, .slice none 0 0, .int .i64 0, .slice none 0 0], .int .i64 4]) (by simp [results, Tryz.results73, go_sem, hcR]) rfl ⟨?_, .inr ⟨HD.out, rfl⟩⟩
      iterate 8 (refine Below.setCell ?_ (by dsimp only; omega) _)
      exact bt0 HB1.out HBR.out (Nat.le_refl _)

end Go.Proofs.YtlcglclojlffgaaGreatDoor
namespace Go.Proofs.YtlcglclojlffgaaGreatDoor
open Go.RowKit

set_option maxRecDepth 100000 in
set_option maxHeartbeats 2000000 in
theorem spIsLayout_any {p k g : Int} {F : Fd} (h : FV p k g F) (d c n : Int) (w : World) :
    Calls Tryz.prog 111 #[.agg #[.int .i64 p, .int .i64 k, .int .i64 g, .int .i64 d, .int .i64 c, .int .i64 n]] w fun e w' => e = .returned (.bool (Lay.ok ⟨d, c, n⟩ F.q)) ∧ Below w.heap.size w w' := by
  have H := Lib.hid h
  clear h
  obtain ⟨ok, hok⟩ : ∃ ok, ok = Lay.ok ⟨d, c, n⟩ F.q := ⟨_, rfl⟩
  have HOK := Lib.hid hok
  rw [← hok]
  clear hok
  go_enter Tryz.func111, Tryz.ntmps111
  go_wp2_with fail
  have hz := push_at w (.cells #[.int .i64 p, .int .i64 k, .int .i64 g, .int .i64 d, .int .i64 c, .int .i64 n] 146 (0, 0))
  have HB0 := Lib.hid (ba1 w (.cells #[.int .i64 p, .int .i64 k, .int .i64 g, .int .i64 d, .int .i64 c, .int .i64 n] 146 (0, 0)))
  obtain ⟨w1, hw1⟩ : ∃ w1, w1 = w.alloc (.cells #[.int .i64 p, .int .i64 k, .int .i64 g, .int .i64 d, .int .i64 c, .int .i64 n] 146 (0, 0)) := ⟨_, rfl⟩
  rw [← hw1] at hz HB0 ⊢
  have HX1 := Lib.hid hz
  obtain ⟨hcA, hfA⟩ := heap_cellR hz
  have hltA := blkLt hz
  clear hw1 hz
  refine (spIn_any n 1 16 w1).mono ?_
  rintro e w2 ⟨rfl, rfl⟩
  rcases Bool.eq_false_or_eq_true (inB n 1 16) with h1 | h1
  · have hn := inB_iff.1 h1
    rw [h1]
    go_wp2_with fail
    refine (spIn_any d n 1500 w1).mono ?_
    rintro e w2 ⟨rfl, rfl⟩
    rcases Bool.eq_false_or_eq_true (inB d n 1500) with h2 | h2
    · have hd := inB_iff.1 h2
      rw [h2]
      go_wp2_with fail
      refine (spIn_any c 1 64 w1).mono ?_
      rintro e w2 ⟨rfl, rfl⟩
      rcases Bool.eq_false_or_eq_true (inB c 1 64) with h3 | h3
      · have hc := inB_iff.1 h3
        rw [h3]
        have hm1 : 0 ≤ n * c := Int.mul_nonneg (by omega) (by omega)
        have hm2 : n * c ≤ 16 * 64 := Int.mul_le_mul hn.2 hc.2 (by omega) (by omega)
        have HT := Lib.hid (show Lay.total ⟨d, c, n⟩ = d + n * c from rfl)
        obtain ⟨m, hm⟩ : ∃ m, m = n * c := ⟨_, rfl⟩
        rw [← hm] at hm1 hm2 HT
        have hw : wrap64 (n * c) = m := by rw [← hm]; unfold wrap64; omega
        have hw2 : wrap64 (d + m) = d + m := by unfold wrap64; omega
        have hw3 : wrap64 (n - 1) = n - 1 := by unfold wrap64; omega
        clear hm
        by_cases h4 : 1500 < d + m
        · have HE := Lib.hid (show ok = false by rw [HOK.out]; simp only [Lay.ok, HT.out]; simp; omega)
          have h4' : decide (1500 < d + m) = true := decide_eq_true h4
          go_wp2_with fail
          go_ret
          exact ⟨ret_bool HE.out.symm, HB0.out⟩
        · have h4' : decide (1500 < d + m) = false := decide_eq_false h4
          have HOK2 := Lib.hid (show ok = (codB F.q (Lay.share ⟨d, c, n⟩ 0 + c) c && codB F.q (Lay.share ⟨d, c, n⟩ (n - 1) + c) c) by
            rw [HOK.out]
            simp only [Lay.ok, HT.out]
            rw [decide_eq_true (show 1 ≤ n by omega), decide_eq_true (show n ≤ 16 by omega), decide_eq_true (show n ≤ d by omega), decide_eq_true (show d ≤ 1500 by omega), decide_eq_true (show 1 ≤ c by omega), decide_eq_true (show c ≤ 64 by omega), decide_eq_true (show d + m ≤ 1500 by omega)]
            rfl)
          clear h4
          go_wp2_with fail
          refine (spBlock_any p k g d c n 0 w1 (by omega) (by omega) (by omega) (by omega) (by omega) (by omega)).mono ?_
          rintro e w2 ⟨rfl, hb2⟩
          have HX2 := Lib.hid (blkK hb2 HX1.out)
          have HB2 := Lib.hid (bt0 HB0.out hb2 (Nat.le_refl _))
          clear hb2 hcA hfA hltA
          go_wp2_with fail
          refine (spIsCode_any H.out _ _ w2).mono ?_
          rintro e w3 ⟨rfl, hb3⟩
          have HX3 := Lib.hid (blkK hb3 HX2.out)
          have HB3 := Lib.hid (bt0 HB2.out hb3 (Nat.le_refl _))
          clear hb3
          obtain ⟨hcA, hfA⟩ := heap_cellR HX3.out
          have hltA := blkLt HX3.out
          rcases Bool.eq_false_or_eq_true (codB F.q (Lay.share ⟨d, c, n⟩ 0 + c) c) with h5 | h5
          · rw [h5]
            have HOK3 := Lib.hid (show ok = codB F.q (Lay.share ⟨d, c, n⟩ (n - 1) + c) c by rw [HOK2.out, h5]; rfl)
            go_wp2_with fail
            refine (spBlock_any p k g d c n (n - 1) w3 (by omega) (by omega) (by omega) (by omega) (by omega) (by omega)).mono ?_
            rintro e w4 ⟨rfl, hb4⟩
            have HB4 := Lib.hid (bt0 HB3.out hb4 (Nat.le_refl _))
            clear hb4
            go_wp2_with fail
            refine (spIsCode_any H.out _ _ w4).mono ?_
            rintro e w5 ⟨rfl, hb5⟩
            have HB5 := Lib.hid (bt0 HB4.out hb5 (Nat.le_refl _))
            clear hb5
            rw [← HOK3.out]
            go_wp2_with fail
            go_ret
            exact ⟨rfl, HB5.out⟩
          · rw [h5]
            have HE := Lib.hid (show ok = false by rw [HOK2.out, h5]; rfl)
            go_wp2_with fail
            go_ret
            exact ⟨ret_bool HE.out.symm, HB3.out⟩
      · rw [h3]
        have HE := Lib.hid (show ok = false by
          have h4 : ¬ (1 ≤ c ∧ c ≤ 64) := of_decide_eq_false h3
          rw [HOK.out]; simp only [Lay.ok]; simp; omega)
        go_wp2_with fail
        go_ret
        exact ⟨ret_bool HE.out.symm, HB0.out⟩
    · rw [h2]
      have HE := Lib.hid (show ok = false by
        have h4 : ¬ (n ≤ d ∧ d ≤ 1500) := of_decide_eq_false h2
        rw [HOK.out]; simp only [Lay.ok]; simp; omega)
      go_wp2_with fail
      go_ret
      exact ⟨ret_bool HE.out.symm, HB0.out⟩
  · rw [h1]
    have HE := Lib.hid (show ok = false by
      have h4 : ¬ (1 ≤ n ∧ n ≤ 16) := of_decide_eq_false h1
      rw [HOK.out]; simp only [Lay.ok]; simp; omega)
    go_wp2_with fail
    go_ret
    exact ⟨ret_bool HE.out.symm, HB0.out⟩
set_option maxRecDepth 100000 in
set_option maxHeartbeats 1000000 in
theorem spWidth_any (F : Fd) (h : FdB F) (w : World) :
    Calls Tryz.prog 108 #[fV F] w fun e w' => e = .returned (.int .i64 (F.k : Int)) ∧ Below w.heap.size w w' := by
  have hk := h.k8
  have hk3 := h.k3
  have H := Lib.hid h
  have HQ := Lib.hid h.q
  clear h
  go_enter Tryz.func108, Tryz.ntmps108
  go_wp2_with fail
  have hz := push_at w (.cells #[.int .i64 2, .int .i64 (F.k : Int), .int .i64 (F.g : Int)] 121 (0, 0))
  have HB0 := Lib.hid (ba1 w (.cells #[.int .i64 2, .int .i64 (F.k : Int), .int .i64 (F.g : Int)] 121 (0, 0)))
  obtain ⟨w1, hw1⟩ : ∃ w1, w1 = w.alloc (.cells #[.int .i64 2, .int .i64 (F.k : Int), .int .i64 (F.g : Int)] 121 (0, 0)) := ⟨_, rfl⟩
  rw [← hw1] at hz HB0 ⊢
  have HX1 := Lib.hid hz
  clear hw1 hz
  go_loopw [3] (fun i wr => ∃ j : Nat, j ≤ F.k ∧ i = .int .i64 j ∧ wr.heap[w.heap.size]? = some (.cells #[.int .i64 2, .int .i64 (F.k : Int), .int .i64 (F.g : Int)] 121 (0, 0)) ∧ Below w.heap.size w wr) (fun i _ => F.k - (intOf i).toNat)
  case atStart => exact ⟨0, Nat.zero_le _, rfl, HX1.out, HB0.out⟩
  case round =>
    obtain ⟨j, hj, rfl, hx, hb⟩ := hrel
    have HX := Lib.hid hx
    have HB := Lib.hid hb
    obtain ⟨hcA, hfA⟩ := heap_cellR HX.out
    have hltA := blkLt HX.out
    have hpw := pow_small2 (show j ≤ 8 by omega)
    obtain ⟨P, hP⟩ : ∃ P, P = 2 ^ j := ⟨_, rfl⟩
    rw [← hP] at hpw
    have HC := Lib.hid (show (2 * P ≤ F.q ↔ j < F.k) by
      rw [HQ.out, hP, show 2 * 2 ^ j = 2 ^ (j + 1) by rw [Nat.pow_succ]; omega]
      exact Nat.pow_le_pow_iff_right (by decide))
    clear hx hb hP
    go_wp2_with fail
    refine (spSize_any F H.out wr).mono ?_
    rintro e w2 ⟨rfl, hb2⟩
    have HX2 := Lib.hid (blkK hb2 HX.out)
    have HB2 := Lib.hid (bt0 HB.out hb2 (Nat.le_refl _))
    clear hb2
    by_cases hjk : j < F.k
    · have hle := HC.out.2 hjk
      have hli : 2 * (P : Int) ≤ (F.q : Int) := by omega
      clear hle
      go_wp2_with fail
      exact ⟨⟨j + 1, by omega, by push_cast; rfl, HX2.out, HB2.out⟩, by simp [intOf]; omega⟩
    · have hle : ¬ 2 * P ≤ F.q := fun h => hjk (HC.out.1 h)
      have hli : ¬ 2 * (P : Int) ≤ (F.q : Int) := by omega
      have HE := Lib.hid (show j = F.k by omega)
      clear hle
      go_wp2_with fail
      go_ret
      exact ⟨by rw [← HE.out]; rfl, HB2.out⟩

end Go.Proofs.YtlcglclojlffgaaGreatDoor
namespace Go.Proofs.YtlcglclojlffgaaGreatDoor
open Go.RowKit

theorem spAbs_any (n : Int) (h : -1000 ≤ n ∧ n ≤ 1000) (w : World) :
    Calls Tryz.prog 146 #[.int .i64 n] w fun e w' => e = .returned (.int .i64 (absI n)) ∧ w = w' := by
  have hw : wrap64 (-n) = -n := by unfold wrap64; omega
  by_cases h0 : n < 0
  · have HE := Lib.hid (show absI n = -n by rw [absI, if_pos h0])
    have hlt : n < -n := by omega
    go_enter Tryz.func146, Tryz.ntmps146
    go_wp2_with fail
    go_ret
    exact ⟨ret_int HE.out.symm, rfl⟩
  · have HE := Lib.hid (show absI n = n by rw [absI, if_neg h0])
    have hlt : ¬ n < -n := by omega
    go_enter Tryz.func146, Tryz.ntmps146
    go_wp2_with fail
    go_ret
    exact ⟨ret_int HE.out.symm, rfl⟩
theorem spFinder_any (r c : Int) (hr : -900 ≤ r ∧ r ≤ 900) (hc : -900 ≤ c ∧ c ≤ 900) (w : World) :
    Calls Tryz.prog 145 #[.int .i64 r, .int .i64 c] w fun e w' => e = .returned (.int .i64 (findS r c)) ∧ w = w' := by
  have hw1 : wrap64 (r - 3) = r - 3 := by unfold wrap64; omega
  have hw2 : wrap64 (c - 3) = c - 3 := by unfold wrap64; omega
  obtain ⟨d, hd⟩ : ∃ d, d = dst (r - 3) (c - 3) := ⟨_, rfl⟩
  have HD := Lib.hid hd
  have HF := Lib.hid (show findS r c = if 4 < d then -1 else if d = 2 ∨ d = 4 then 0 else 1 by rw [findS, ← hd])
  obtain ⟨A, hA⟩ : ∃ A, A = absI (r - 3) := ⟨_, rfl⟩
  obtain ⟨B, hB⟩ : ∃ B, B = absI (c - 3) := ⟨_, rfl⟩
  have HA := Lib.hid hA
  have HBB := Lib.hid hB
  have hmx : (if A < B then B else A) = d := by
    rw [hd, dst, ← hA, ← hB]
    repeat' split
    all_goals omega
  clear hd hA hB
  by_cases d4 : 4 < d
  · have d4b : decide (4 < d) = true := decide_eq_true d4
    have HE := Lib.hid (HF.out.trans (if_pos d4))
    go_enter Tryz.func145, Tryz.ntmps145
    go_wp2_with fail
    refine (spAbs_any (r - 3) (by omega) w).mono ?_
    rintro e w1 ⟨rfl, rfl⟩
    rw [← HA.out]
    go_wp2_with fail
    refine (spAbs_any (c - 3) (by omega) w).mono ?_
    rintro e w1 ⟨rfl, rfl⟩
    rw [← HBB.out]
    go_wp2_with fail
    go_ret
    exact ⟨ret_int HE.out.symm, rfl⟩
  · have d4b : decide (4 < d) = false := decide_eq_false d4
    by_cases d2 : d = 2
    · have HE := Lib.hid (HF.out.trans ((if_neg d4).trans (if_pos (Or.inl d2))))
      have d2b : (d == 2) = true := by rw [beq_iff_eq]; exact d2
      clear d2
      go_enter Tryz.func145, Tryz.ntmps145
      go_wp2_with fail
      refine (spAbs_any (r - 3) (by omega) w).mono ?_
      rintro e w1 ⟨rfl, rfl⟩
      rw [← HA.out]
      go_wp2_with fail
      refine (spAbs_any (c - 3) (by omega) w).mono ?_
      rintro e w1 ⟨rfl, rfl⟩
      rw [← HBB.out]
      go_wp2_with fail
      go_ret
      exact ⟨ret_int HE.out.symm, rfl⟩
    · have d2b : (d == 2) = false := by rw [beq_eq_false_iff_ne]; exact d2
      by_cases d4' : d = 4
      · have HE := Lib.hid (HF.out.trans ((if_neg d4).trans (if_pos (Or.inr d4'))))
        have d4c : (d == 4) = true := by rw [beq_iff_eq]; exact d4'
        clear d2 d4'
        go_enter Tryz.func145, Tryz.ntmps145
        go_wp2_with fail
        refine (spAbs_any (r - 3) (by omega) w).mono ?_
        rintro e w1 ⟨rfl, rfl⟩
        rw [← HA.out]
        go_wp2_with fail
        refine (spAbs_any (c - 3) (by omega) w).mono ?_
        rintro e w1 ⟨rfl, rfl⟩
        rw [← HBB.out]
        go_wp2_with fail
        go_ret
        exact ⟨ret_int HE.out.symm, rfl⟩
      · have HE := Lib.hid (HF.out.trans ((if_neg d4).trans (if_neg (fun h => h.elim d2 d4'))))
        have d4c : (d == 4) = false := by rw [beq_eq_false_iff_ne]; exact d4'
        clear d2 d4'
        go_enter Tryz.func145, Tryz.ntmps145
        go_wp2_with fail
        refine (spAbs_any (r - 3) (by omega) w).mono ?_
        rintro e w1 ⟨rfl, rfl⟩
        rw [← HA.out]
        go_wp2_with fail
        refine (spAbs_any (c - 3) (by omega) w).mono ?_
        rintro e w1 ⟨rfl, rfl⟩
        rw [← HBB.out]
        go_wp2_with fail
        go_ret
        exact ⟨ret_int HE.out.symm, rfl⟩
/-- the three corners of the finder patterns -/
def cornX (n : Int) (k : Nat) : Int := if k = 2 then n - 7 else 0
def cornY (n : Int) (k : Nat) : Int := if k = 1 then n - 7 else 0
def vS (n r c : Int) (k : Nat) : Int := findS (r - cornX n k) (c - cornY n k)
def restS (n r c : Int) : Int := if r = 6 ∧ 8 ≤ c ∧ c ≤ n - 9 then 1 - c % 2 else if c = 6 ∧ 8 ≤ r ∧ r ≤ n - 9 then 1 - r % 2 else if r = n - 8 ∧ c = 8 then 1 else -1
theorem fixS_at {n r c : Int} {k : Nat} (hk : k < 3) (h : ∀ j, j < k → vS n r c j < 0) (hv : 0 ≤ vS n r c k) : fixS n r c = vS n r c k := by
  have e0 : vS n r c 0 = findS r c := by simp [vS, cornX, cornY]
  have e1 : vS n r c 1 = findS r (c - (n - 7)) := by simp [vS, cornX, cornY]
  have e2 : vS n r c 2 = findS (r - (n - 7)) c := by simp [vS, cornX, cornY]
  unfold fixS
  rw [← e0, ← e1, ← e2]
  have hk3 : k = 0 ∨ k = 1 ∨ k = 2 := by omega
  rcases hk3 with rfl | rfl | rfl
  · rw [if_pos hv]
  · have := h 0 (by omega)
    rw [if_neg (by omega), if_pos hv]
  · have := h 0 (by omega)
    have := h 1 (by omega)
    rw [if_neg (by omega), if_neg (by omega), if_pos hv]
theorem fixS_rest {n r c : Int} (h : ∀ j, j < 3 → vS n r c j < 0) : fixS n r c = restS n r c := by
  have e0 : vS n r c 0 = findS r c := by simp [vS, cornX, cornY]
  have e1 : vS n r c 1 = findS r (c - (n - 7)) := by simp [vS, cornX, cornY]
  have e2 : vS n r c 2 = findS (r - (n - 7)) c := by simp [vS, cornX, cornY]
  unfold fixS
  rw [← e0, ← e1, ← e2]
  have := h 0 (by omega)
  have := h 1 (by omega)
  have := h 2 (by omega)
  rw [if_neg (by omega), if_neg (by omega), if_neg (by omega)]
  rfl
theorem restS_eq (n r c : Int) : restS n r c = if (r == 6) && inB c 8 (n - 9) then 1 - c % 2 else if (c == 6) && inB r 8 (n - 9) then 1 - r % 2 else if (r == n - 8) && (c == 8) then 1 else -1 := by
  unfold restS
  simp only [inB, Bool.and_eq_true, beq_iff_eq, decide_eq_true_eq]
def CornAt (W : World) (B : Nat) (n : Int) : Prop := ∀ k, k < 3 → W.cell? ⟨B + 3, k, none⟩ = some (.slice (some ⟨B + k, 0, none⟩) 2 2) ∧ W.cell? ⟨B + k, 0, none⟩ = some (.int .i64 (cornX n k)) ∧ W.cell? ⟨B + k, 1, none⟩ = some (.int .i64 (cornY n k))
set_option maxRecDepth 100000 in
set_option maxHeartbeats 8000000 in
theorem spFixed_any (n r c : Int) (hn : 17 ≤ n ∧ n ≤ 41) (hr : 0 ≤ r ∧ r ≤ 41) (hc : 0 ≤ c ∧ c ≤ 41) (w : World) :
    Calls Tryz.prog 144 #[.int .i64 n, .int .i64 r, .int .i64 c] w fun e w' => e = .returned (.int .i64 (fixS n r c)) ∧ Below w.heap.size w w' := by
  have hw1 : wrap64 (n - 7) = n - 7 := by unfold wrap64; omega
  obtain ⟨R, hR⟩ : ∃ R, R = fixS n r c := ⟨_, rfl⟩
  have HR := Lib.hid hR
  rw [← hR]
  clear hR
  go_enter Tryz.func144, Tryz.ntmps144
  go_wp2_with fail
  obtain ⟨B, hB⟩ : ∃ B, B = w.heap.size := ⟨_, rfl⟩
  obtain ⟨W, hW⟩ : ∃ W, W = ((((w.alloc (.cells #[.int .i64 0, .int .i64 0] 2 (0, 0))).alloc (.cells #[.int .i64 0, .int .i64 (n - 7)] 2 (0, 0))).alloc (.cells #[.int .i64 (n - 7), .int .i64 0] 2 (0, 0))).alloc (.cells #[.slice (some ⟨w.heap.size, 0, none⟩) 2 2, .slice (some ⟨w.heap.size + 1, 0, none⟩) 2 2, .slice (some ⟨w.heap.size + 1 + 1, 0, none⟩) 2 2] 67 (0, 0))) := ⟨_, rfl⟩
  have hCO : CornAt W B n ∧ Below w.heap.size w W ∧ B + 3 < W.heap.size := by
    have b1 := push_at w (.cells #[.int .i64 0, .int .i64 0] 2 (0, 0))
    have b2 := push_at (w.alloc (.cells #[.int .i64 0, .int .i64 0] 2 (0, 0))) (.cells #[.int .i64 0, .int .i64 (n - 7)] 2 (0, 0))
    have b3 := push_at ((w.alloc (.cells #[.int .i64 0, .int .i64 0] 2 (0, 0))).alloc (.cells #[.int .i64 0, .int .i64 (n - 7)] 2 (0, 0))) (.cells #[.int .i64 (n - 7), .int .i64 0] 2 (0, 0))
    have b4 := push_at (((w.alloc (.cells #[.int .i64 0, .int .i64 0] 2 (0, 0))).alloc (.cells #[.int .i64 0, .int .i64 (n - 7)] 2 (0, 0))).alloc (.cells #[.int .i64 (n - 7), .int .i64 0] 2 (0, 0))) (.cells #[.slice (some ⟨w.heap.size, 0, none⟩) 2 2, .slice (some ⟨w.heap.size + 1, 0, none⟩) 2 2, .slice (some ⟨w.heap.size + 1 + 1, 0, none⟩) 2 2] 67 (0, 0))
    rw [← hW] at b4
    have c1 := (heap_cellR (push_old (A := .cells #[.slice (some ⟨w.heap.size, 0, none⟩) 2 2, .slice (some ⟨w.heap.size + 1, 0, none⟩) 2 2, .slice (some ⟨w.heap.size + 1 + 1, 0, none⟩) 2 2] 67 (0, 0)) (push_old (A := .cells #[.int .i64 (n - 7), .int .i64 0] 2 (0, 0)) (push_old (A := .cells #[.int .i64 0, .int .i64 (n - 7)] 2 (0, 0)) b1)))).1
    have c2 := (heap_cellR (push_old (A := .cells #[.slice (some ⟨w.heap.size, 0, none⟩) 2 2, .slice (some ⟨w.heap.size + 1, 0, none⟩) 2 2, .slice (some ⟨w.heap.size + 1 + 1, 0, none⟩) 2 2] 67 (0, 0)) (push_old (A := .cells #[.int .i64 (n - 7), .int .i64 0] 2 (0, 0)) b2))).1
    have c3 := (heap_cellR (push_old (A := .cells #[.slice (some ⟨w.heap.size, 0, none⟩) 2 2, .slice (some ⟨w.heap.size + 1, 0, none⟩) 2 2, .slice (some ⟨w.heap.size + 1 + 1, 0, none⟩) 2 2] 67 (0, 0)) b3)).1
    rw [← hW] at c1 c2 c3
    have c4 := (heap_cellR b4).1
    simp only [World.size_alloc] at c1 c2 c3 c4
    rw [← hB] at c1 c2 c3 c4
    refine ⟨fun k hk => ?_, ?_, ?_⟩
    · have hk3 : k = 0 ∨ k = 1 ∨ k = 2 := by omega
      rcases hk3 with rfl | rfl | rfl
      · exact ⟨c4 0, c1 0, c1 1⟩
      · exact ⟨c4 1, c2 0, c2 1⟩
      · exact ⟨c4 2, c3 0, c3 1⟩
    · rw [hW]
      exact ((ba2 w _ _).alloc (by simp; omega) _).alloc (by simp; omega) _
    · rw [hW, hB]; simp
  obtain ⟨hCO, hbW, hlB⟩ := hCO
  rw [← hW, ← hB]
  have HCO := Lib.hid hCO
  have HBW := Lib.hid hbW
  clear hW hCO hbW hB
  rw [show B + 1 + 1 + 1 = B + 3 from rfl]
  go_loopw [8, 9] (fun i _ wr => ∃ k : Nat, k ≤ 3 ∧ i = .int .i64 k ∧ (∀ j, j < k → vS n r c j < 0) ∧ CornAt wr B n ∧ Below w.heap.size w wr ∧ B + 3 < wr.heap.size) (fun i _ _ => 3 - (intOf i).toNat)
  case atStart => exact ⟨0, Nat.zero_le _, rfl, fun j h => by omega, HCO.out, HBW.out, hlB⟩
  case round =>
    obtain ⟨k, hk, rfl, hall, hco, hb, hlr⟩ := hrel
    have HALL := Lib.hid hall
    have HB := Lib.hid hb
    have HCR := Lib.hid hco
    clear hall hb
    by_cases hk3 : k < 3
    · obtain ⟨q1, q2, q3⟩ := hco k hk3
      clear hco
      have hki : (k : Int) < 3 := by omega
      have HV := Lib.hid (show vS n r c k = findS (r - cornX n k) (c - cornY n k) from rfl)
      obtain ⟨X, hX⟩ : ∃ X, X = cornX n k := ⟨_, rfl⟩
      obtain ⟨Y, hY⟩ : ∃ Y, Y = cornY n k := ⟨_, rfl⟩
      have hXb : 0 ≤ X ∧ X ≤ 41 := by rw [hX]; unfold cornX; split <;> omega
      have hYb : 0 ≤ Y ∧ Y ≤ 41 := by rw [hY]; unfold cornY; split <;> omega
      rw [← hX] at q2 HV
      rw [← hY] at q3 HV
      have hwx : wrap64 (r - X) = r - X := by unfold wrap64; omega
      have hwy : wrap64 (c - Y) = c - Y := by unfold wrap64; omega
      have hBk : B + k < wr.heap.size := by omega
      have HFN := Lib.hid (fun w => spFinder_any (r - X) (c - Y) (by omega) (by omega) w)
      obtain ⟨v, hv⟩ : ∃ v, v = findS (r - X) (c - Y) := ⟨_, rfl⟩
      rw [← hv] at HFN HV
      clear hX hY hv
      go_wp2_with fail
      go_quiet ((go_at_call 145; go_must (exact quiet_same' (HFN.out _))))
      by_cases hv0 : 0 ≤ v
      · have HE := Lib.hid (show R = v by rw [HR.out, fixS_at hk3 HALL.out (by rw [HV.out]; exact hv0), HV.out])
        go_wp2_with fail
        go_ret
        exact ⟨ret_int HE.out.symm, HB.out.trans (below_drewN (Below.refl _ _) _)⟩
      · have HK : Hid (∀ j, j < k + 1 → vS n r c j < 0) := Lib.hid (fun j hj => by
          by_cases e : j = k
          · subst e; rw [HV.out]; omega
          · exact HALL.out j (by omega))
        go_wp2_with fail
        refine ⟨⟨k + 1, by omega, by push_cast; rfl, HK.out, fun j hj => ?_, HB.out.trans (below_drewN (Below.refl _ _) _), hlr⟩, by simp [intOf]; omega⟩
        exact HCR.out j hj
    · obtain rfl : k = 3 := by omega
      clear hco
      have HRE := Lib.hid (HR.out.trans (fixS_rest HALL.out))
      have hw9 : wrap64 (n - 9) = n - 9 := by unfold wrap64; omega
      have hw8 : wrap64 (n - 8) = n - 8 := by unfold wrap64; omega
      have hki : ¬ (3 : Int) < 3 := by omega
      have htc : c.tmod 2 = c % 2 := Int.tmod_eq_emod_of_nonneg (by omega)
      have htr : r.tmod 2 = r % 2 := Int.tmod_eq_emod_of_nonneg (by omega)
      have hm1 : wrap64 (1 - c % 2) = 1 - c % 2 := by unfold wrap64; omega
      have hm2 : wrap64 (1 - r % 2) = 1 - r % 2 := by unfold wrap64; omega
      rw [restS_eq] at HRE
      obtain ⟨b1, hb1⟩ : ∃ b, (r == 6) = b := ⟨_, rfl⟩
      obtain ⟨b2, hb2⟩ : ∃ b, (c == 6) = b := ⟨_, rfl⟩
      obtain ⟨b3, hb3⟩ : ∃ b, (r == n - 8) = b := ⟨_, rfl⟩
      obtain ⟨b4, hb4⟩ : ∃ b, (c == 8) = b := ⟨_, rfl⟩
      obtain ⟨b5, hb5⟩ : ∃ b, inB c 8 (n - 9) = b := ⟨_, rfl⟩
      obtain ⟨b6, hb6⟩ : ∃ b, inB r 8 (n - 9) = b := ⟨_, rfl⟩
      have HI5 := Lib.hid (fun w => spIn_val (w := w) hb5)
      have HI6 := Lib.hid (fun w => spIn_val (w := w) hb6)
      rw [hb1, hb2, hb3, hb4, hb5, hb6] at HRE
      clear hb5 hb6 hn hr hc
      cases b1 with
      | false =>
        cases b2 with
        | false =>
          cases b3 with
          | false =>
            go_wp2_with fail
            go_ret
            exact ⟨ret_int HRE.out.symm, HB.out⟩
          | true =>
            cases b4 with
            | false =>
              go_wp2_with fail
              go_ret
              exact ⟨ret_int HRE.out.symm, HB.out⟩
            | true =>
              go_wp2_with fail
              go_ret
              exact ⟨ret_int HRE.out.symm, HB.out⟩
        | true =>
          go_wp2_with fail
          refine (HI6.out _).mono ?_
          rintro e w' ⟨rfl, rfl⟩
          cases b6 with
          | true =>
            go_wp2_with fail
            go_ret
            exact ⟨ret_int HRE.out.symm, HB.out⟩
          | false =>
            cases b3 with
            | false =>
              go_wp2_with fail
              go_ret
              exact ⟨ret_int HRE.out.symm, HB.out⟩
            | true =>
              cases b4 with
              | false =>
                go_wp2_with fail
                go_ret
                exact ⟨ret_int HRE.out.symm, HB.out⟩
              | true =>
                go_wp2_with fail
                go_ret
                exact ⟨ret_int HRE.out.symm, HB.out⟩
      | true =>
        go_wp2_with fail
        refine (HI5.out _).mono ?_
        rintro e w' ⟨rfl, rfl⟩
        cases b5 with
        | true =>
          go_wp2_with fail
          go_ret
          exact ⟨ret_int HRE.out.symm, HB.out⟩
        | false =>
          cases b2 with
          | false =>
            cases b3 with
            | false =>
              go_wp2_with fail
              go_ret
              exact ⟨ret_int HRE.out.symm, HB.out⟩
            | true =>
              cases b4 with
              | false =>
                go_wp2_with fail
                go_ret
                exact ⟨ret_int HRE.out.symm, HB.out⟩
              | true =>
                go_wp2_with fail
                go_ret
                exact ⟨ret_int HRE.out.symm, HB.out⟩
          | true =>
            go_wp2_with fail
            refine (HI6.out _).mono ?_
            rintro e w' ⟨rfl, rfl⟩
            cases b6 with
            | true =>
              go_wp2_with fail
              go_ret
              exact ⟨ret_int HRE.out.symm, HB.out⟩
            | false =>
              cases b3 with
              | false =>
                go_wp2_with fail
                go_ret
                exact ⟨ret_int HRE.out.symm, HB.out⟩
              | true =>
                cases b4 with
                | false =>
                  go_wp2_with fail
                  go_ret
                  exact ⟨ret_int HRE.out.symm, HB.out⟩
                | true =>
                  go_wp2_with fail
                  go_ret
                  exact ⟨ret_int HRE.out.symm, HB.out⟩

end Go.Proofs.YtlcglclojlffgaaGreatDoor
namespace Go.Proofs.YtlcglclojlffgaaGreatDoor
open Go.RowKit

/-- two slices of the call's own, in two blocks -/
def Two (w0 w : World) (vm vt : Value) (M T : List Int) : Prop :=
  OwnI w w0.heap.size vm M ∧ OwnI w w0.heap.size vt T ∧ (∀ k, vm.ownBlock = some k → vt.ownBlock ≠ some k) ∧ Below w0.heap.size w0 w
theorem Two.below {w0 w w' : World} {vm vt : Value} {M T : List Int} (h : Two w0 w vm vt M T) (hb : Below w.heap.size w w') : Two w0 w' vm vt M T :=
  ⟨h.1.grown hb, h.2.1.grown hb, h.2.2.1, bt0 h.2.2.2 hb (Nat.le_refl _)⟩
theorem own_empty (w : World) : OwnI (w.alloc (.cells #[] 2 (0, 0))) w.heap.size (.slice (some ⟨w.heap.size, 0, none⟩) 0 0) [] :=
  World.ownsRow_lit (base := w.heap.size) (size := 1) w #[] 0 (Nat.le_refl _) (by unfold maxLen; omega) rfl
theorem Two.weak {w00 w0 w : World} {vm vt : Value} {M T : List Int} (h : Two w0 w vm vt M T) (hb : Below w00.heap.size w00 w0) : Two w00 w vm vt M T :=
  ⟨h.1.weak hb.size, h.2.1.weak hb.size, h.2.2.1, hb.trans (h.2.2.2.mono hb.size)⟩

/-- two lists, a number and a code are handed back -/
def RetTwo (w : World) (M T : List Int) (F cd : Int) (e : Ending) (w' : World) : Prop :=
  ∃ a c b d, e = .returned (.tuple #[.slice a M.length c, .slice b T.length d, .int .i64 F, .int .i64 cd]) ∧ Two w w' (.slice a M.length c) (.slice b T.length d) M T
theorem RetTwo.none {w w' : World} {F cd : Int} (hb : Below w.heap.size w w') : RetTwo w [] [] F cd (.returned (.tuple #[.slice none 0 0, .slice none 0 0, .int .i64 F, .int .i64 cd])) w' :=
  ⟨Option.none, 0, Option.none, 0, rfl, World.ownsRow_nil _ _ _ _, World.ownsRow_nil _ _ _ _, fun k hk => (by cases hk), hb⟩
theorem RetTwo.of {w w' : World} {vm vt : Value} {M T : List Int} {F cd : Int} (h : Two w w' vm vt M T) : RetTwo w M T F cd (.returned (.tuple #[vm, vt, .int .i64 F, .int .i64 cd])) w' := by
  obtain ⟨a, c, rfl, _⟩ := h.1.read
  obtain ⟨b, d, rfl, _⟩ := h.2.1.read
  exact ⟨a, c, b, d, rfl, h⟩

end Go.Proofs.YtlcglclojlffgaaGreatDoor
namespace Go.Proofs.YtlcglclojlffgaaGreatDoor
open Go.RowKit

/-- the first k cells of the reference's grid -/
def gS (n k : Nat) : List Int := (List.range k).map fun i => fixS n ((i / n : Nat) : Int) ((i % n : Nat) : Int)
theorem gS_step {n r c : Nat} (hc : c < n) : gS n (r * n + c + 1) = gS n (r * n + c) ++ [fixS n (r : Int) (c : Int)] := by
  rw [gS, List.range_succ, List.map_append, List.map_singleton, gS]
  congr 2
  rw [show (r * n + c) / n = r by rw [Nat.mul_comm, Nat.mul_add_div (by omega), Nat.div_eq_of_lt hc, Nat.add_zero], show (r * n + c) % n = c by rw [Nat.mul_comm, Nat.mul_add_mod, Nat.mod_eq_of_lt hc]]
theorem gS_len (n k : Nat) : (gS n k).length = k := by simp [gS]
set_option maxRecDepth 100000 in
set_option maxHeartbeats 2000000 in
theorem spGrid_any (n : Nat) (hn : 17 ≤ n ∧ n ≤ 41) (w : World) :
    Calls Tryz.prog 143 #[.int .i64 (n : Int)] w fun e w' => (∃ a c, e = .returned (.agg #[.int .i64 (n : Int), .int .i64 (n : Int), .slice a (gS n (n * n)).length c]) ∧ IntsAt w' a (gS n (n * n))) ∧ Below w.heap.size w w' := by
  obtain ⟨hn1, hn2⟩ := hn
  go_enter Tryz.func143, Tryz.ntmps143
  go_wp2_with fail
  have hO := own_empty (w.alloc (.cells #[.int .i64 0, .int .i64 0, .slice none 0 0] 205 (0, 0)))
  have hB1 := ba1 w (.cells #[.int .i64 0, .int .i64 0, .slice none 0 0] 205 (0, 0))
  have hX := push_at w (.cells #[.int .i64 0, .int .i64 0, .slice none 0 0] 205 (0, 0))
  obtain ⟨w1, hw1⟩ : ∃ w1, w1 = w.alloc (.cells #[.int .i64 0, .int .i64 0, .slice none 0 0] 205 (0, 0)) := ⟨_, rfl⟩
  have hs1 : w1.heap.size = w.heap.size + 1 := by rw [hw1]; simp
  rw [← hw1] at hO hB1 hX ⊢
  clear hw1
  rw [hs1] at hO
  have hB2 := ba1 w1 (.cells #[] 2 (0, 0))
  obtain ⟨w2, hw2⟩ : ∃ w2, w2 = w1.alloc (.cells #[] 2 (0, 0)) := ⟨_, rfl⟩
  rw [← hw2] at hO hB2 ⊢
  rw [hs1] at hB2
  have HO := Lib.hid hO
  have HB1 := Lib.hid hB1
  have HX := Lib.hid hX
  have HB2 := Lib.hid hB2
  have hs2 : w.heap.size + 1 ≤ w2.heap.size := by rw [hw2]; simp [hs1]
  clear hw2 hO hB1 hX hB2
  go_loopw [3, 4, 5] (fun v i _ wr => ∃ (r : Nat) (a : Option Addr) (c : Nat) (l : List Int), r ≤ n ∧ i = .int .i64 r ∧ l = gS n (r * n) ∧ v = .slice a l.length c ∧ OwnI wr (w.heap.size + 1) (.slice a l.length c) l ∧ Below (w.heap.size + 1) w1 wr ∧ w.heap.size + 1 ≤ wr.heap.size) (fun _ i _ _ => n - (intOf i).toNat)
  case atStart => exact ⟨0, _, 0, [], Nat.zero_le _, rfl, by simp [gS], rfl, HO.out, HB2.out, hs2⟩
  case round =>
    obtain ⟨r, a, c, l, hr, rfl, hl, rfl, ho, hb, hsz⟩ := hrel
    have HL := Lib.hid hl
    have HOr := Lib.hid ho
    have HBr := Lib.hid hb
    clear hl ho hb
    by_cases hrn : r < n
    · have hri : (r : Int) < (n : Int) := by omega
      go_wp2_with fail
      go_loopw [3, 5] (fun v i wr => ∃ (k : Nat) (a : Option Addr) (c : Nat) (l : List Int), k ≤ n ∧ i = .int .i64 k ∧ l = gS n (r * n + k) ∧ v = .slice a l.length c ∧ OwnI wr (w.heap.size + 1) (.slice a l.length c) l ∧ Below (w.heap.size + 1) w1 wr ∧ w.heap.size + 1 ≤ wr.heap.size) (fun _ i _ => n - (intOf i).toNat)
      case atStart => exact ⟨0, a, c, l, Nat.zero_le _, rfl, by rw [HL.out]; rfl, rfl, HOr.out, HBr.out, hsz⟩
      case round =>
        clear hsz
        obtain ⟨k, a, c, l, hk, rfl, hl, rfl, ho, hb, hsz⟩ := hrel
        have HLk := Lib.hid hl
        have HOk := Lib.hid ho
        have HBk := Lib.hid hb
        have hll : l.length ≤ 2000 := by
          rw [hl, gS_len]
          have h1 : r * n ≤ 41 * 41 := Nat.mul_le_mul (by omega) (by omega)
          omega
        clear hl ho hb
        by_cases hkn : k < n
        · have hki : (k : Int) < (n : Int) := by omega
          go_wp2_with fail
          refine (spFixed_any n r k (by omega) (by omega) (by omega) _).mono ?_
          rintro e w3 ⟨rfl, hb3⟩
          have HO3 := Lib.hid (HOk.out.grown hb3)
          have HB3 := Lib.hid (bt0 HBk.out hb3 (by omega))
          have hs3 : w.heap.size + 1 ≤ w3.heap.size := by have := hb3.size; omega
          obtain ⟨z, hz⟩ : ∃ z, z = fixS n r k := ⟨_, rfl⟩
          have HZ := Lib.hid hz
          rw [← hz]
          clear hb3 hz
          go_wp2_with (at_builtin; refine wpList_append_i1 (o := _) rfl (.tmp 17) (.tmp 22) 67 Tryz.underlying67 rfl (w.heap.size + 1) (.slice a l.length c) l z rfl (HO3.out.grown (ba1 _ _)) w3.heap.size rfl (push_at _ _) ?c3 ?c4 ?h8)
          case c3 => omega
          case c4 => simp; omega
          case h8 =>
          intro a6 c6 l6 w6 he6 ho6 hg6 hb6
          have HB7 := Lib.hid ((bt0 HB3.out (ba1 w3 (.cells #[.int .i64 z] 2 (0, 0))) (by omega)).trans hb6)
          have HO8 := Lib.hid ho6
          have HE6 := Lib.hid he6
          have hs6 : w.heap.size + 1 ≤ w6.heap.size := by have := HB7.out.size; omega
          clear hg6 hb6 ho6 he6
          go_wp2_with fail
          exact ⟨⟨k + 1, a6, c6, l6, by omega, by push_cast; rfl, by rw [HE6.out, HLk.out, HZ.out, ← Nat.add_assoc, gS_step hkn], rfl, HO8.out, HB7.out, hs6⟩, by simp [intOf]; omega⟩
        · have hki : ¬ (k : Int) < (n : Int) := by omega
          obtain rfl : k = n := by omega
          go_wp2_with fail
          exact ⟨⟨r + 1, a, c, l, by omega, by push_cast; rfl, by rw [HLk.out, Nat.add_mul, Nat.one_mul], rfl, HOk.out, HBk.out, hsz⟩, by simp [intOf]; omega⟩
    · have hri : ¬ (r : Int) < (n : Int) := by omega
      obtain rfl : r = n := by omega
      obtain ⟨hcA, hfA⟩ := heap_cellR ((HBr.out.block w.heap.size (by omega)).trans HX.out)
      go_wp2_with fail
      refine bodyPost_ret (v := .agg #[.int .i64 (r : Int), .int .i64 (r : Int), .slice a l.length c]) (by simp [results, Tryz.results143, go_sem, hcA]) rfl ⟨⟨a, ⟨c, by rw [← HL.out]⟩, ?_⟩, ?_⟩
      · rw [← HL.out]
        exact (((HOr.out.setOld (a := ⟨w.heap.size, 0, none⟩) (by dsimp only; omega) _).setOld (a := ⟨w.heap.size, 1, none⟩) (by dsimp only; omega) _).setOld (a := ⟨w.heap.size, 2, none⟩) (by dsimp only; omega) _).ints
      · iterate 3 (refine Below.setCell ?_ (by dsimp only; omega) _)
        exact HB1.out.trans (HBr.out.mono (by omega))

/-- how many of the first k cells are no fixed ones -/
def ngS (l : List Int) (k : Nat) : Nat := ((l.take k).filter fun x => decide (x < 0)).length
theorem ngS_step {l : List Int} {k : Nat} {x : Int} (h : l[k]? = some x) : ngS l (k + 1) = ngS l k + if x < 0 then 1 else 0 := by
  rw [ngS, take_snoc' h, List.filter_append, List.length_append, ← ngS]
  congr 1
  by_cases hx : x < 0
  · simp [hx]
  · simp [hx]
theorem ngS_le (l : List Int) (k : Nat) : ngS l k ≤ k := Nat.le_trans (List.length_filter_le _ _) (by rw [List.length_take]; exact Nat.min_le_left _ _)
theorem cntS_ng (n : Nat) : cntS n = -30 + (ngS (gS n (n * n)) (n * n) : Int) := by
  rw [cntS, ngS, List.take_of_length_le (by rw [gS_len]; exact Nat.le_refl _), gS, List.filter_map, List.length_map]
  rfl
set_option maxRecDepth 100000 in
set_option maxHeartbeats 1000000 in
theorem spCount_any (n : Nat) (hn : 17 ≤ n ∧ n ≤ 41) (w : World) :
    Calls Tryz.prog 137 #[.int .i64 (n : Int)] w fun e w' => e = .returned (.int .i64 (cntS n)) ∧ Below w.heap.size w w' := by
  have HN := Lib.hid hn
  obtain ⟨R, hR⟩ : ∃ R, R = cntS n := ⟨_, rfl⟩
  have HR := Lib.hid (hR.trans (cntS_ng n))
  rw [← hR]
  have hnn : n * n ≤ 41 * 41 := Nat.mul_le_mul hn.2 hn.2
  clear hn hR
  go_enter Tryz.func137, Tryz.ntmps137
  go_wp2_with fail
  refine (spGrid_any n HN.out w).mono ?_
  rintro e w1 ⟨⟨a, c, rfl, hi⟩, hb1⟩
  have HL := Lib.hid (gS_len n (n * n))
  obtain ⟨l, hl⟩ : ∃ l, l = gS n (n * n) := ⟨_, rfl⟩
  rw [← hl] at hi HL HR ⊢
  have hX := push_at w1 (.cells #[.int .i64 (n : Int), .int .i64 (n : Int), .slice a l.length c] 205 (0, 0))
  have HB := Lib.hid (bt0 hb1 (ba1 w1 (.cells #[.int .i64 (n : Int), .int .i64 (n : Int), .slice a l.length c] 205 (0, 0))) (Nat.le_refl _))
  have HI := Lib.hid (hi.below (ba1 w1 (.cells #[.int .i64 (n : Int), .int .i64 (n : Int), .slice a l.length c] 205 (0, 0))))
  have hll : l.length ≤ 2000 := by rw [HL.out]; omega
  clear hi hb1 hl
  go_wp2_with fail
  obtain ⟨w2, hw2⟩ : ∃ w2, w2 = w1.alloc (.cells #[.int .i64 (n : Int), .int .i64 (n : Int), .slice a l.length c] 205 (0, 0)) := ⟨_, rfl⟩
  rw [← hw2] at hX HB HI ⊢
  obtain ⟨hcA, hfA⟩ := heap_cellR hX
  have hltA := blkLt hX
  clear hX hw2
  go_loopw [4, 5] (fun o i wr => ∃ k : Nat, k ≤ l.length ∧ i = .int .i64 k ∧ o = .int .i64 (-30 + (ngS l k : Int)) ∧ wr = w2) (fun _ i _ => l.length - (intOf i).toNat)
  case atStart => exact ⟨0, Nat.zero_le _, rfl, by simp [ngS], rfl⟩
  case round =>
    obtain ⟨k, hk, rfl, rfl, rfl⟩ := hrel
    by_cases hlt : k < l.length
    · obtain ⟨b1, o1, x, rfl, hxk, hb1, hc1⟩ := HI.out.at hlt
      have hki : (k : Int) < (l.length : Int) := by omega
      have HS := Lib.hid (ngS_step hxk)
      have hng := ngS_le l k
      obtain ⟨m, hm⟩ : ∃ m, m = ngS l k := ⟨_, rfl⟩
      rw [← hm] at HS hng ⊢
      clear hxk hm
      by_cases hx : x < 0
      · have HS2 := Lib.hid (HS.out.trans (by rw [if_pos hx]))
        go_wp2_with fail
        exact ⟨⟨k + 1, by omega, by push_cast; rfl, by rw [HS2.out]; push_cast; congr 1; omega, trivial⟩, by simp [intOf]; omega⟩
      · have HS2 := Lib.hid (HS.out.trans (by rw [if_neg hx, Nat.add_zero]))
        go_wp2_with fail
        exact ⟨⟨k + 1, by omega, by push_cast; rfl, by rw [HS2.out], trivial⟩, by simp [intOf]; omega⟩
    · obtain rfl : k = l.length := by omega
      have hki : ¬ ((l.length : Nat) : Int) < (l.length : Int) := by omega
      have HE := Lib.hid (show -30 + (ngS l l.length : Int) = R by rw [HR.out, HL.out])
      obtain ⟨m, hm⟩ : ∃ m, m = ngS l l.length := ⟨_, rfl⟩
      rw [← hm] at HE ⊢
      clear hm
      go_wp2_with fail
      go_ret
      exact ⟨ret_int HE.out, HB.out⟩

end Go.Proofs.YtlcglclojlffgaaGreatDoor
namespace Go.Proofs.YtlcglclojlffgaaGreatDoor
open Go.RowKit

set_option maxRecDepth 100000 in
set_option maxHeartbeats 1000000 in
theorem spElements_any (nm : ByteArray) (kd p k g : Int) (a1 : Option Addr) (szs : List Int) (c1 : Nat) (cl : Int) (a2 : Option Addr) (lvs : List Int) (c2 : Nat) (n : Int) (w : World) (h : Fam.ok ⟨nm, kd, p, k, g, szs, cl, lvs⟩ = true) (hn : hasI szs n = true) :
    Calls Tryz.prog 124 #[(.agg #[.string nm, .int .i64 kd, .int .i64 p, .int .i64 k, .int .i64 g, .slice a1 szs.length c1, .int .i64 cl, .slice a2 lvs.length c2]), .int .i64 n] w fun e w' => e = .returned (.int .i64 (Fam.elems ⟨nm, kd, p, k, g, szs, cl, lvs⟩ n)) ∧ Below w.heap.size w w' := by
  have hbd := elems_bd h hn
  obtain ⟨E, hE⟩ : ∃ E, E = Fam.elems ⟨nm, kd, p, k, g, szs, cl, lvs⟩ n := ⟨_, rfl⟩
  rw [← hE] at hbd ⊢
  obtain ⟨h1, h2, h3, h4, h5⟩ := fam_ok h
  have hm := hasI_mem hn
  unfold Fam.elems at hE
  dsimp only at hE
  have HE := Lib.hid hE
  clear hE
  rcases h5 with ⟨rfl, h6, h7⟩ | ⟨rfl, -, -, -, h6, h7⟩
  · have HS := Lib.hid (List.all_eq_true.1 h6 n hm)
    have hb := msz_bd HS.out
    rw [if_neg (by decide)] at HE
    have HF := Lib.hid (fv_of h1)
    have hk := HF.out.ok.k
    have hk3 := HF.out.ok.k3
    have hk8 := HF.out.ok.k8
    obtain ⟨F, hFe⟩ : ∃ F, F = bF k.toNat g.toNat := ⟨_, rfl⟩
    rw [← hFe] at HF hk hk3 hk8
    have hd := dcnt_bd n
    obtain ⟨D, hD⟩ : ∃ D, D = dcnt n := ⟨_, rfl⟩
    rw [← hD] at hd HE
    have HCN : Hid (∀ w : World, Calls Tryz.prog 137 #[.int .i64 n] w fun e w' => e = .returned (.int .i64 (D : Int)) ∧ Below w.heap.size w w') := Lib.hid (fun w => by
      have h1 := spCount_any n.toNat (by omega) w
      rw [cntS_eq HS.out, ← hD, Int.toNat_of_nonneg (by omega)] at h1
      exact h1)
    have HWD : Hid (∀ w : World, Calls Tryz.prog 108 #[.agg #[.int .i64 p, .int .i64 k, .int .i64 g]] w fun e w' => e = .returned (.int .i64 k) ∧ Below w.heap.size w w') := Lib.hid (fun w => by
      have h1 := spWidth_any F HF.out.r.toFdB w
      rw [← HF.out.v, ← hk] at h1
      exact h1)
    have hq : (0 : Int) ≤ (D : Int) / k ∧ (D : Int) / k ≤ 1408 := by rw [← HE.out]; omega
    have hK0 : (k == 0) = false := by rw [beq_eq_false_iff_ne]; omega
    have htd : (D : Int).tdiv k = (D : Int) / k := Int.tdiv_eq_ediv_of_nonneg (by omega)
    have hki : 3 ≤ k ∧ k ≤ 8 := by omega
    clear h1 h2 h3 h4 h6 h7 hm hFe hD hk hk3 hk8
    go_enter Tryz.func124, Tryz.ntmps124
    go_wp2_with fail
    refine wp_region_ext (by kernel_rfl) (by kernel_rfl) ?_
    repeat (go_big_quiet_step ((first
      | (go_at_call 137; go_must (exact calls_ext _ (HCN.out _)))
      | (go_at_call 108; go_must (exact calls_ext _ (HWD.out _))))))
    refine wpQuiet_nil ?_
    rintro _ ⟨s, rfl⟩
    go_wp2_with fail
    go_ret
    exact ⟨ret_int HE.out.symm, bt0 (ba1 _ _) s.below (Nat.le_refl _)⟩
  · rw [if_pos rfl] at HE
    have HW := Lib.hid (show wrap64 (n * cl) = E by rw [← HE.out]; unfold wrap64; omega)
    clear h1 h2 h3 h4 h6 h7 hm
    go_enter Tryz.func124, Tryz.ntmps124
    go_wp2_with fail
    go_ret
    exact ⟨ret_int HW.out, ba1 _ _⟩

end Go.Proofs.YtlcglclojlffgaaGreatDoor
namespace Go.Proofs.YtlcglclojlffgaaGreatDoor
open Go.RowKit

set_option maxRecDepth 100000 in
set_option maxHeartbeats 2000000 in
theorem spLayout_any (nm : ByteArray) (kd p k g : Int) (a1 : Option Addr) (szs : List Int) (c1 : Nat) (cl : Int) (a2 : Option Addr) (lvs : List Int) (c2 : Nat) (n lev : Int) (w : World) (h : Fam.ok ⟨nm, kd, p, k, g, szs, cl, lvs⟩ = true) (hn : hasI szs n = true) (hl : 0 ≤ lev ∧ lev < lvs.length) (hx : IntsAt w a2 lvs) (L : Lay) (hL : Fam.lay ⟨nm, kd, p, k, g, szs, cl, lvs⟩ n lev = L) :
    Calls Tryz.prog 110 #[(.agg #[.string nm, .int .i64 kd, .int .i64 p, .int .i64 k, .int .i64 g, .slice a1 szs.length c1, .int .i64 cl, .slice a2 lvs.length c2]), .int .i64 n, .int .i64 lev] w fun e w' => e = .returned (.agg #[.int .i64 p, .int .i64 k, .int .i64 g, .int .i64 L.data, .int .i64 L.checks, .int .i64 L.count]) ∧ Below w.heap.size w w' := by
  have hbd := elems_bd h hn
  obtain ⟨E, hE⟩ : ∃ E, E = Fam.elems ⟨nm, kd, p, k, g, szs, cl, lvs⟩ n := ⟨_, rfl⟩
  have HEe := Lib.hid hE
  rw [← hE] at hbd
  obtain ⟨h1, h2, h3, -, -⟩ := fam_ok h
  have HF := Lib.hid (fv_of h1)
  have hq := HF.out.fd.q_bd
  obtain ⟨Q, hQ⟩ : ∃ Q, Q = (bF k.toNat g.toNat).q := ⟨_, rfl⟩
  have HQ := Lib.hid hQ
  rw [← hQ] at hq
  obtain ⟨lv, rfl⟩ := Int.eq_ofNat_of_zero_le hl.1
  have hll : lv < lvs.length := by omega
  have hlvi : (lv : Int) < (lvs.length : Int) := hl.2
  obtain ⟨b1, o1, v, rfl, hv, hlb, hc1⟩ := hx.at hll
  have hvb := ris_in h3 (List.mem_of_getElem? hv)
  have HX := Lib.hid hx
  -- the numbers
  have hm : (if (255 : Int) < (Q : Int) - 1 then 255 else (Q : Int) - 1) = (Q : Int) - 1 := by rw [if_neg (by omega)]
  obtain ⟨C, hC⟩ : ∃ C, (E + ((Q : Int) - 1) - 1) / ((Q : Int) - 1) = C := ⟨_, rfl⟩
  have hCb : 1 ≤ C ∧ C ≤ 1700 := by
    rw [← hC]
    refine ⟨(Int.le_ediv_iff_mul_le (by omega)).2 (by omega), Int.le_trans (Int.ediv_le_self _ (by omega)) (by omega)⟩
  have hTb : 3 * 1 ≤ E * v ∧ E * v ≤ 1408 * 80 := ⟨Int.mul_le_mul hbd.1 hvb.1 (by omega) (by omega), Int.mul_le_mul hbd.2 hvb.2 (by omega) (by omega)⟩
  obtain ⟨T, hT⟩ : ∃ T, E * v = T := ⟨_, rfl⟩
  rw [hT] at hTb
  have hw1 : wrap64 (E * v) = T := by rw [hT]; unfold wrap64; omega
  obtain ⟨X, hX⟩ : ∃ X, T / 100 / C = X := ⟨_, rfl⟩
  have hXb : 0 ≤ X ∧ X ≤ 112640 := by
    rw [← hX]
    refine ⟨Int.ediv_nonneg (by omega) (by omega), Int.le_trans (Int.ediv_le_self _ (by omega)) (by omega)⟩
  obtain ⟨Y, hY⟩ : ∃ Y, (if 2 < X then X else 2) = Y := ⟨_, rfl⟩
  have hYb : 2 ≤ Y ∧ Y ≤ 112640 := by rw [← hY]; split <;> omega
  obtain ⟨K, hK⟩ : ∃ K, (if Y < 64 then Y else 64) = K := ⟨_, rfl⟩
  have hKb : 2 ≤ K ∧ K ≤ 64 := by rw [← hK]; split <;> omega
  have hRb : 1 * 2 ≤ C * K ∧ C * K ≤ 1700 * 64 := ⟨Int.mul_le_mul hCb.1 hKb.1 (by omega) (by omega), Int.mul_le_mul hCb.2 hKb.2 (by omega) (by omega)⟩
  obtain ⟨R, hR⟩ : ∃ R, C * K = R := ⟨_, rfl⟩
  rw [hR] at hRb
  have hw2 : wrap64 (C * K) = R := by rw [hR]; unfold wrap64; omega
  have HL := Lib.hid (show L = ⟨E - R, K, C⟩ by
    have e0 : ((2 ^ k.toNat : Nat) : Int) = (Q : Int) := by rw [hQ]; rfl
    have e1 : lvs.getD (((lv : Nat) : Int)).toNat 0 = v := by rw [Int.toNat_natCast, List.getD_eq_getElem?_getD, hv]; rfl
    rw [← hL]
    unfold Fam.lay
    dsimp only
    rw [← hE, e0, e1, if_pos (by omega), hC, hT, hX]
    have e3 : (if 2 ≤ (if X ≤ 64 then X else 64) then (if X ≤ 64 then X else 64) else 2) = K := by
      rw [← hK, ← hY]
      repeat' split
      all_goals omega
    rw [e3, hR])
  rw [HL.out]
  dsimp only
  have HH := Lib.hid h
  have HN := Lib.hid hn
  have HSZ : Hid (∀ w : World, Calls Tryz.prog 122 #[.agg #[.int .i64 p, .int .i64 k, .int .i64 g]] w fun e w' => e = .returned (.int .i64 (Q : Int)) ∧ Below w.heap.size w w') := Lib.hid (fun w => by
    have h1 := spSize_any _ HF.out.r.toFdB w
    rw [← HF.out.v, ← HQ.out] at h1
    exact h1)
  clear h hn h1 h2 h3 hx hv hQ hE hL hT hR
  go_enter Tryz.func110, Tryz.ntmps110
  go_wp2_with fail
  refine (spElements_any nm kd p k g a1 szs c1 cl _ lvs c2 n _ HH.out HN.out).mono ?_
  rintro e w1 ⟨rfl, hb1⟩
  rw [← HEe.out]
  have e2 := heap2 w (.cells #[.string nm, .int .i64 kd, .int .i64 p, .int .i64 k, .int .i64 g, .slice a1 szs.length c1, .int .i64 cl, .slice (some ⟨b1, o1, none⟩) lvs.length c2] 123 (0, 0)) (.cells #[.int .i64 0, .int .i64 0, .int .i64 0, .int .i64 0, .int .i64 0, .int .i64 0] 146 (0, 0))
  have k1 := blkK hb1 e2.1
  have k2 := blkK hb1 e2.2
  have K1 := Lib.hid k1
  have K2 := Lib.hid k2
  obtain ⟨hcA, hfA⟩ := heap_cellR k1
  have HB1 := Lib.hid (bt2 hb1)
  have z1 := blkLt k1
  clear hb1 e2 k1 k2
  go_wp2_with fail
  refine (HSZ.out w1).mono ?_
  rintro e w2 ⟨rfl, hb2⟩
  have k1 := blkK hb2 K1.out
  have k2 := blkK hb2 K2.out
  have HB2 := Lib.hid (bt0 HB1.out hb2 (Nat.le_refl _))
  have hc2 := (HB2.out.cell (p := ⟨b1, o1 + lv, none⟩) hlb).trans hc1
  clear hcA hfA hc1
  obtain ⟨hcA, hfA⟩ := heap_cellR k1
  obtain ⟨hcB, hfB⟩ := heap_cellR k2
  have y1 := blkLt k1
  have y2 := blkLt k2
  clear hb2 k1 k2
  go_wp2_with fail
  refine bodyPost_ret (v := .agg #[.int .i64 p, .int .i64 k, .int .i64 g, .int .i64 (E - R), .int .i64 K, .int .i64 C]) (by simp [results, Tryz.results110, go_sem, hcB]) rfl ⟨rfl, ?_⟩
  iterate 6 (refine Below.setCell ?_ (by dsimp only; omega) _)
  exact HB2.out

end Go.Proofs.YtlcglclojlffgaaGreatDoor
namespace Go.Proofs.YtlcglclojlffgaaGreatDoor
open Go.RowKit

set_option maxRecDepth 100000 in
set_option maxHeartbeats 4000000 in
theorem spLayoutOf_any (nm : ByteArray) (kd p k g : Int) (a1 : Option Addr) (szs : List Int) (c1 : Nat) (cl : Int) (a2 : Option Addr) (lvs : List Int) (c2 : Nat) (n lev : Int) (w : World) (h1 : IntsAt w a1 szs) (h2 : IntsAt w a2 lvs) (l1 : szs.length ≤ 1048576) (l2 : lvs.length ≤ 1048576) (ln : nm.size ≤ 1048576) :
    Calls Tryz.prog 91 #[(.agg #[.string nm, .int .i64 kd, .int .i64 p, .int .i64 k, .int .i64 g, .slice a1 szs.length c1, .int .i64 cl, .slice a2 lvs.length c2]), .int .i64 n, .int .i64 lev] w fun e w' => e = .returned (.tuple #[layA ⟨nm, kd, p, k, g, szs, cl, lvs⟩ n lev, .int .i64 (layC ⟨nm, kd, p, k, g, szs, cl, lvs⟩ n lev)]) ∧ Below w.heap.size w w' := by
  have H1 := Lib.hid h1
  have H2 := Lib.hid h2
  obtain ⟨fam, hfam⟩ : ∃ f, f = Fam.mk nm kd p k g szs cl lvs := ⟨_, rfl⟩
  have HFM := Lib.hid hfam
  have HFI := Lib.hid (fun w (h1 : IntsAt w a1 szs) (h2 : IntsAt w a2 lvs) => spCode_any nm kd p k g a1 szs c1 cl a2 lvs c2 n w h1 h2 l1 l2 ln)
  rw [← hfam] at HFI ⊢
  obtain ⟨cd, hcd⟩ : ∃ cd, cd = layC fam n lev := ⟨_, rfl⟩
  obtain ⟨vA, hvA⟩ : ∃ vA, vA = layA fam n lev := ⟨_, rfl⟩
  rw [← hcd, ← hvA]
  have HCD := Lib.hid hcd
  have HVA := Lib.hid hvA
  have HNO : Hid (layC fam n lev ≠ 0 → vA = .agg #[.int .i64 0, .int .i64 0, .int .i64 0, .int .i64 0, .int .i64 0, .int .i64 0]) := Lib.hid (fun h => by rw [hvA, layA, if_neg h])
  clear h1 h2 hfam hcd hvA
  go_enter Tryz.func91, Tryz.ntmps91
  go_wp2_with fail
  have e2 := heap2 w (.cells #[.string nm, .int .i64 kd, .int .i64 p, .int .i64 k, .int .i64 g, .slice a1 szs.length c1, .int .i64 cl, .slice a2 lvs.length c2] 123 (0, 0)) (.cells #[.int .i64 0, .int .i64 0, .int .i64 0, .int .i64 0, .int .i64 0, .int .i64 0] 146 (0, 0))
  refine (HFI.out _ (H1.out.below (ba2 _ _ _)) (H2.out.below (ba2 _ _ _))).mono ?_
  rintro e w1 ⟨rfl, hb1⟩
  have K1 := Lib.hid (blkK hb1 e2.1)
  have K2 := Lib.hid (blkK hb1 e2.2)
  have HB1 := Lib.hid (bt2 hb1)
  clear hb1 e2
  obtain ⟨hcA, hfA⟩ := heap_cellR K1.out
  obtain ⟨hcB, hfB⟩ := heap_cellR K2.out
  have z1 := blkLt K1.out
  have z2 := blkLt K2.out
  rcases Bool.eq_false_or_eq_true fam.ok with ho | ho
  · rcases Bool.eq_false_or_eq_true (hasI szs n) with hs | hs
    · rw [show famC fam n = 0 by rw [famC, if_pos ho, HFM.out, if_pos hs]]
      have hw : wrap64 ((lvs.length : Int) - 1) = (lvs.length : Int) - 1 := by unfold wrap64; omega
      go_wp2_with fail
      refine (spIn_any lev 0 ((lvs.length : Int) - 1) w1).mono ?_
      rintro e w2 ⟨rfl, rfl⟩
      rcases Bool.eq_false_or_eq_true (inB lev 0 ((lvs.length : Int) - 1)) with hv | hv
      · rw [hv]
        have HLi := Lib.hid (show 0 ≤ lev ∧ lev < lvs.length by have := inB_iff.1 hv; omega)
        have hfo : Fam.ok ⟨nm, kd, p, k, g, szs, cl, lvs⟩ = true := by rw [← HFM.out]; exact ho
        obtain ⟨hfb, -⟩ := fam_ok hfo
        have HF := Lib.hid (fv_of hfb)
        have HO := Lib.hid hfo
        have HS := Lib.hid hs
        obtain ⟨L, hL⟩ : ∃ L, fam.lay n lev = L := ⟨_, rfl⟩
        have HLe := Lib.hid hL
        have HQe := Lib.hid (show ((2 ^ fam.fk.toNat : Nat) : Int) = ((bF k.toNat g.toNat).q : Int) by rw [HFM.out]; rfl)
        have HC0 := Lib.hid (show layC fam n lev = if L.ok ((bF k.toNat g.toNat).q : Int) = true then 0 else 3 by rw [layC, if_pos ho, if_pos (by rw [HFM.out]; exact ⟨hs, hv⟩), hL, HQe.out])
        clear hfo hfb hL hw hs ho hv
        go_wp2_with fail
        refine (spLayout_any nm kd p k g a1 szs c1 cl a2 lvs c2 n lev w1 HO.out HS.out HLi.out (H2.out.below HB1.out) L (by rw [← HFM.out]; exact HLe.out)).mono ?_
        rintro e w4 ⟨rfl, hb4⟩
        have K7 := Lib.hid (blkK hb4 K2.out)
        have HB4 := Lib.hid (bt0 HB1.out hb4 (Nat.le_refl _))
        clear hb4 hcA hfA hcB hfB
        have z7 := blkLt K7.out
        go_wp2_with fail
        refine (spIsLayout_any HF.out L.data L.checks L.count _).mono ?_
        rw [show Lay.mk L.data L.checks L.count = L from rfl]
        rintro e w5 ⟨rfl, hb5⟩
        have K8 := Lib.hid (blkK hb5 ((blkK (ba1 _ _) K7.out)))
        have HB5 := Lib.hid (bt0 (bt0 HB4.out (ba1 _ _) (Nat.le_refl _)) hb5 (Nat.le_refl _))
        have K9 := Lib.hid (blkK hb5 (push_at w4 (.cells #[.int .i64 p, .int .i64 k, .int .i64 g, .int .i64 L.data, .int .i64 L.checks, .int .i64 L.count] 146 (0, 0))))
        clear hb5
        obtain ⟨hcB, hfB⟩ := heap_cellR K8.out
        obtain ⟨hcC, hfC⟩ := heap_cellR K9.out
        have z8 := blkLt K8.out
        have z9 := blkLt K9.out
        rcases Bool.eq_false_or_eq_true (L.ok ((bF k.toNat g.toNat).q : Int)) with hl | hl
        · have HC := Lib.hid (show layC fam n lev = 0 by rw [HC0.out, if_pos hl])
          have HV := Lib.hid (show vA = .agg #[.int .i64 p, .int .i64 k, .int .i64 g, .int .i64 L.data, .int .i64 L.checks, .int .i64 L.count] by rw [HVA.out, layA, if_pos HC.out, HLe.out, HFM.out])
          rw [hl]
          go_wp2_with fail
          refine bodyPost_ret (v := .tuple #[.agg #[.int .i64 p, .int .i64 k, .int .i64 g, .int .i64 L.data, .int .i64 L.checks, .int .i64 L.count], .int .i64 0]) (by simp [results, Tryz.results91, go_sem, hcB]) rfl ⟨by rw [HCD.out, HV.out, HC.out], ?_⟩
          iterate 6 (refine Below.setCell ?_ (by dsimp only; omega) _)
          exact HB5.out
        · have HC := Lib.hid (show layC fam n lev = 3 by rw [HC0.out, if_neg (by rw [hl]; decide)])
          rw [hl]
          go_wp2_with fail
          refine bodyPost_ret (v := .tuple #[.agg #[.int .i64 0, .int .i64 0, .int .i64 0, .int .i64 0, .int .i64 0, .int .i64 0], .int .i64 3]) (by simp [results, Tryz.results91, go_sem, hcB]) rfl ⟨by rw [HCD.out, HNO.out (by rw [HC.out]; decide), HC.out], ?_⟩
          iterate 6 (refine Below.setCell ?_ (by dsimp only; omega) _)
          exact HB5.out
      · rw [hv]
        have HC := Lib.hid (show layC fam n lev = 2 by rw [layC, if_pos ho, if_neg (by rw [HFM.out]; simp [hv])])
        have hcz : w.heap.size ≤ w.heap.size + 1 := by omega
        go_wp2_with fail
        refine bodyPost_ret (v := .tuple #[.agg #[.int .i64 0, .int .i64 0, .int .i64 0, .int .i64 0, .int .i64 0, .int .i64 0], .int .i64 2]) (by simp [results, Tryz.results91, go_sem, hcB]) rfl ⟨by rw [HCD.out, HNO.out (by rw [HC.out]; decide), HC.out], ?_⟩
        iterate 6 (refine Below.setCell ?_ (by dsimp only; omega) _)
        exact HB1.out
    · rw [show famC fam n = 2 by rw [famC, if_pos ho, HFM.out, if_neg (by rw [hs]; decide)]]
      have HC := Lib.hid (show layC fam n lev = 2 by rw [layC, if_pos ho, if_neg (by rw [HFM.out]; simp [hs])])
      go_wp2_with fail
      refine bodyPost_ret (v := .tuple #[.agg #[.int .i64 0, .int .i64 0, .int .i64 0, .int .i64 0, .int .i64 0, .int .i64 0], .int .i64 2]) (by simp [results, Tryz.results91, go_sem, hcB]) rfl ⟨by rw [HCD.out, HNO.out (by rw [HC.out]; decide), HC.out], ?_⟩
      iterate 6 (refine Below.setCell ?_ (by dsimp only; omega) _)
      exact HB1.out
  · rw [show famC fam n = 1 by rw [famC, if_neg (by rw [ho]; decide)]]
    have HC := Lib.hid (show layC fam n lev = 1 by rw [layC, if_neg (by rw [ho]; decide)])
    go_wp2_with fail
    refine bodyPost_ret (v := .tuple #[.agg #[.int .i64 0, .int .i64 0, .int .i64 0, .int .i64 0, .int .i64 0, .int .i64 0], .int .i64 1]) (by simp [results, Tryz.results91, go_sem, hcB]) rfl ⟨by rw [HCD.out, HNO.out (by rw [HC.out]; decide), HC.out], ?_⟩
    iterate 6 (refine Below.setCell ?_ (by dsimp only; omega) _)
    exact HB1.out

end Go.Proofs.YtlcglclojlffgaaGreatDoor
