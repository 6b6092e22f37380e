import Derived.Test.YthnjfdhijpfekaaVTouchP
import Derived.Test.YthnjfdhijpfekaaVDrawADs
namespace Go.Proofs.Ythnjfdhijpfekaa
open Go.RowKit

/-- the facts, and what else stands -/
def StZ (P : World → Prop) (L : List Fact) (B : Nat) (w : World) : Prop := StY L B w ∧ P w
def KeepsP (P : World → Prop) : Prop := ∀ w w', Below w.heap.size w w' → P w → P w'
theorem rz_same {P : World → Prop} {L : List Fact} {B : Nat} {w : World} {s : Sp KeepX} {v : Value} (hst : StZ P L B w) (h : s.holds v w) : RsR (StZ P L B) s w v w := ⟨hst, Below.refl _ _, h⟩
theorem rz_new {P : World → Prop} {L : List Fact} {B : Nat} {w : World} {cs : Array Value} {t : TypeId} (hP : KeepsP P) (hst : StZ P L B w) : RsR (StZ P L B) (xBox B cs t) w (.pointer (some ⟨w.heap.size, 0, none⟩)) (w.alloc (.cells cs t (0, 0))) :=
  ⟨⟨hst.1.below (ba1 _ _), hP _ _ (ba1 _ _) hst.2⟩, ba1 _ _, w.heap.size, rfl, hst.1.2, Array.getElem?_push_size⟩
theorem rz_call {P : World → Prop} {Pr : Program} {f : FuncId} {args : Array Value} {L : List Fact} {B : Nat} {w : World} {s : Sp KeepX} (hP : KeepsP P) (hst : StZ P L B w) (h : Calls Pr f args w fun e w' => ∃ v, e = .returned v ∧ Below w.heap.size w w' ∧ s.holds v w') :
    Calls Pr f args w fun e w' => ∃ v, e = .returned v ∧ RsR (StZ P L B) s w v w' :=
  h.mono fun _ _ ⟨v, he, hb, hs⟩ => ⟨v, he, ⟨hst.1.below hb, hP _ _ hb hst.2⟩, hb, hs⟩
theorem keepDms {a : Option Addr} {ds : List Dm} : KeepsP (fun W => DmsAt W a ds) := fun _ _ hb h => h.below hb
theorem dms_cells {w : World} {b o K : Nat} {ds : List Dm} {d : Dm} (h : DmsAt w (some ⟨b, o, none⟩) ds) (hd : ds[K]? = some d) : DmAt w b (o + K * 6) d := by
  obtain ⟨hK, rfl⟩ := List.getElem?_eq_some_iff.1 hd
  obtain ⟨b', o', e, hc⟩ := h K hK
  simp only [Option.some.injEq, Addr.mk.injEq, and_true] at e
  obtain ⟨rfl, rfl⟩ := e
  exact hc
theorem dms_other {w w' : World} {b o g : Nat} {ds : List Dm} (h : DmsAt w (some ⟨b, o, none⟩) ds) (hg : ∀ k, k < w.heap.size → k ≠ g → w'.heap[k]? = w.heap[k]?) (hne : b ≠ g) : DmsAt w' (some ⟨b, o, none⟩) ds := by
  intro i hi
  have hc := dms_cells h (List.getElem?_eq_getElem hi)
  have hl := lt_of_cell hc.1
  have he : ∀ j, w'.cell? ⟨b, j, none⟩ = w.cell? ⟨b, j, none⟩ := fun j => World.cell?_of_block (w := w) (a := ⟨b, j, none⟩) (hg b hl hne)
  exact ⟨b, o, rfl, (he _).trans hc.1, (he _).trans hc.2.1, (he _).trans hc.2.2.1, (he _).trans hc.2.2.2.1, (he _).trans hc.2.2.2.2.1, (he _).trans hc.2.2.2.2.2⟩
theorem dms_setRow {w : World} {b o g : Nat} {ds : List Dm} {cs : Array Value} (h : DmsAt w (some ⟨b, o, none⟩) ds) (hne : b ≠ g) : DmsAt (w.setRow g cs) (some ⟨b, o, none⟩) ds :=
  dms_other h (fun k _ hk => by simp only [World.setRow]; rw [Array.getElem?_modify, if_neg (fun e => hk e.symm)]) hne
theorem dms_set3 {w : World} {b o g : Nat} {ds : List Dm} {v0 v1 v2 : Value} (h : DmsAt w (some ⟨b, o, none⟩) ds) (hne : b ≠ g) : DmsAt (((w.setCell ⟨g, 0, none⟩ v0).setCell ⟨g, 1, none⟩ v1).setCell ⟨g, 2, none⟩ v2) (some ⟨b, o, none⟩) ds :=
  dms_other h (fun k hk hn => (box3grown w g v0 v1 v2).block k hk (fun e => hn (Option.some.inj e))) hne

theorem facts_x {F O O' : Fact} {b : Nat} {x0 x1 x2 : Value} {t : TypeId} {L : List Fact} {w : World} (h : Facts (F :: O :: Fact.box b #[x0, x1, x2] t :: O' :: L) w) (v0 v1 v2 : Value) :
    Facts (Fact.box b #[v0, v1, v2] t :: O :: L) (((w.setCell ⟨b, 0, none⟩ v0).setCell ⟨b, 1, none⟩ v1).setCell ⟨b, 2, none⟩ v2) := by
  have h0 := h.store 2 rfl 0 v0
  have h1 := h0.store 2 rfl 1 v1
  have h2 := h1.store 2 rfl 2 v2
  exact h2.tail.swap.drop3

set_option maxRecDepth 100000 in
set_option maxHeartbeats 1000000 in
theorem damages_any (a : Option Addr) (n c : Nat) (w : World) (hx : BytesAt w w.heap.size a n) :
    Calls Try.prog 5 #[.slice a n c] w fun e w' => e = .returned (.bool true) ∧ Below w.heap.size w w' := by
  have HX := Lib.hid hx
  clear hx
  by_cases hn : n ≤ 4096
  · have hbig : decide ((4096 : Int) < n) = false := by simp; omega
    go_enter Try.func5, Try.ntmps5
    go_wp2_with fail
    refine (big_any a n c _).mono ?_
    rintro e w0 ⟨rfl, rfl⟩
    rw [hbig]
    go_wp2_with fail
    refine (drawApplyDamages_any a n c _ HX.out hn).mono ?_
    rintro e w1 ⟨x1, x2, xs, aP, cP, ds, aL, cL, rfl, hl, hld, ho, hoD, hb⟩
    have hl2 := ((Facts.start w0).own hb ho).box #[.int .i64 x1, .int .i64 x2, .slice aP xs.length cP] 28
    obtain ⟨y1, y2, zs, cd, hAr⟩ := apOk x1 x2 xs ds
    have HAR := Lib.hid hAr
    have hzl := HAR.out.len
    have HZ : Hid (zs.length ≤ maxLen) := Lib.hid (by unfold maxLen; omega)
    have HLX : Hid (xs.length ≤ maxLen) := Lib.hid (by unfold maxLen; omega)
    have hcc : (cd != cd) = false := by simp
    have HL2 := Lib.hid hl2
    have HDS := Lib.hid (hoD.dms.below (ba1 w1 (.cells #[.int .i64 x1, .int .i64 x2, .slice aP xs.length cP] 28 (0, 0))))
    have hLb : ∀ ad, aL = some ad → ad.block < w1.heap.size := fun ad e => by subst e; exact hoD.hi _ rfl
    clear hl2 ho hb hAr hoD
    go_wp2_with fail
    have HOP := Lib.hid (HL2.out.get 1 rfl)
    refine (applyDamages_any x1 x2 aP xs cP aL ds cL _ (ownF_ints HOP.out) HLX.out HDS.out (by omega)).mono ?_
    rw [HAR.out.eq]
    rintro e w3 ⟨aG, cG, rfl, ho, hb⟩
    have hF := HL2.out.own hb ho
    have HD3 := Lib.hid ((HDS.out.below hb).below (ba1 w3 (.cells #[.int .i64 y1, .int .i64 y2, .slice aG zs.length cG] 28 (0, 0))))
    clear ho hb HDS
    have hP := boxF_cells (hF.get 1 rfl)
    have hltP : w1.heap.size < w3.heap.size := hF.top 1 rfl
    obtain ⟨loG, hlG⟩ : ∃ n, (w1.alloc (.cells #[.int .i64 x1, .int .i64 x2, .slice aP xs.length cP] 28 (0, 0))).heap.size = n := ⟨_, rfl⟩
    rw [hlG] at hF
    clear hlG
    have HL3 := Lib.hid (hF.box #[.int .i64 y1, .int .i64 y2, .slice aG zs.length cG] 28)
    clear hF
    go_wp2_with fail
    clear hP hltP
    have HOP := Lib.hid (HL3.out.get 3 rfl)
    refine (specApplyDamages_any x1 x2 aP xs cP aL ds cL _ (ownF_ints HOP.out) (OwnI.slc HOP.out.1) HLX.out HD3.out (by omega)).mono ?_
    rw [HAR.out.eq]
    rintro e w4 ⟨aM, cM, rfl, ho, hb⟩
    have hF := HL3.out.own hb ho
    have HD4 := Lib.hid ((HD3.out.below hb).below (ba1 w4 (.cells #[.int .i64 y1, .int .i64 y2, .slice aM zs.length cM] 28 (0, 0))))
    clear ho hb HD3
    have hG := boxF_cells (hF.get 1 rfl)
    have hltG : w3.heap.size < w4.heap.size := hF.top 1 rfl
    have HL4 := Lib.hid (hF.box #[.int .i64 y1, .int .i64 y2, .slice aM zs.length cM] 28)
    clear hF
    go_wp2_with fail
    clear hG hltG
    have HOG := Lib.hid (HL4.out.get 3 rfl)
    have HOM := Lib.hid (HL4.out.get 1 rfl)
    refine (likeRaster_same (ownF_ints HOG.out) (ownF_ints HOM.out) HZ.out).mono ?_
    rintro e w5 ⟨rfl, hb⟩
    have HL5 := Lib.hid (HL4.out.below hb)
    have HD5 := Lib.hid (HD4.out.below hb)
    clear hb HOG HOM HOP HD4
    have hP := boxF_cells (HL5.out.get 4 rfl)
    by_cases hcd : cd = 0
    · subst hcd
      obtain ⟨q1, q2, q3, rfl, rfl, q4⟩ := HAR.out.ok rfl
      obtain ⟨N, M, rfl, rfl, p1, p2, p3, p4, p5, p6, p7⟩ := ras_nat q1
      have hz : zs = dmsL N M ds xs := by rw [q4, Int.toNat_natCast, Int.toNat_natCast]
      have HZE := Lib.hid hz
      have HALL := Lib.hid q3
      have HXL := Lib.hid p6
      have HGR := Lib.hid p7
      obtain ⟨hiG, hhG⟩ : ∃ n, w3.heap.size = n := ⟨_, rfl⟩
      rw [hhG] at HL5 ⊢
      have hLw : w1.heap.size ≤ w5.heap.size := by have := HL5.out.top 4 rfl; simp only [Fact.hi] at this; omega
      clear q1 q2 q3 q4 p6 p7 hz hzl HL4 HL3 HL2 hhG
      have hl6 := HL5.out.box #[.int .i64 (N : Int), .int .i64 (M : Int), .slice aP xs.length cP] 28
      obtain ⟨BX, hBX⟩ : ∃ n, w5.heap.size = n := ⟨_, rfl⟩
      have HD6 := Lib.hid (HD5.out.below (ba1 w5 (.cells #[.int .i64 (N : Int), .int .i64 (M : Int), .slice aP xs.length cP] 28 (0, 0))))
      have hl7 := (((hl6.drop2.drop2).perm (L' := [Fact.box w5.heap.size #[.int .i64 (N : Int), .int .i64 (M : Int), .slice aP xs.length cP] 28, Fact.own w0.heap.size w1.heap.size (.slice aP xs.length cP) xs, Fact.box hiG #[.int .i64 (N : Int), .int .i64 (M : Int), .slice aG zs.length cG] 28, Fact.own loG hiG (.slice aG zs.length cG) zs, Fact.box w1.heap.size #[.int .i64 (N : Int), .int .i64 (M : Int), .slice aP xs.length cP] 28, Fact.below w0]) (by
        refine List.Perm.cons _ ?_
        exact (List.perm_middle (l₁ := [_, _, _]) (l₂ := [_]))))).perm (L' := [Fact.box w1.heap.size #[.int .i64 (N : Int), .int .i64 (M : Int), .slice aP xs.length cP] 28, Fact.box w5.heap.size #[.int .i64 (N : Int), .int .i64 (M : Int), .slice aP xs.length cP] 28, Fact.own w0.heap.size w1.heap.size (.slice aP xs.length cP) xs, Fact.box hiG #[.int .i64 (N : Int), .int .i64 (M : Int), .slice aG zs.length cG] 28, Fact.own loG hiG (.slice aG zs.length cG) zs, Fact.below w0]) (List.perm_middle (l₁ := [_, _, _, _]) (l₂ := [_]))
      have HL7 := Lib.hid hl7.tail
      rw [hBX] at HL7
      clear hl6 hl7 HD5
      go_wp2_with fail
      try rw [hBX]
      clear hP HL5
      generalize w5.alloc (.cells #[.int .i64 (N : Int), .int .i64 (M : Int), .slice aP xs.length cP] 28 (0, 0)) = w6 at *
      have hLB : ∀ ad, aL = some ad → ad.block < BX := fun ad e => by have := hLb ad e; omega
      clear hLb hBX hLw
      go_loopw [10] (fun i wr => ∃ (K : Nat) (zk : List Int) (aX : Option Addr) (cX loX hiX : Nat), K ≤ ds.length ∧ i = .int .i64 K ∧ zk = dmsL N M (ds.take K) xs ∧ Facts [Fact.box BX #[.int .i64 (N : Int), .int .i64 (M : Int), .slice aX zk.length cX] 28, Fact.own loX hiX (.slice aX zk.length cX) zk, Fact.box hiG #[.int .i64 (N : Int), .int .i64 (M : Int), .slice aG zs.length cG] 28, Fact.own loG hiG (.slice aG zs.length cG) zs, Fact.below w0] wr ∧ DmsAt wr aL ds) (fun i _ => ds.length - (intOf i).toNat)
      case atStart => exact ⟨0, xs, aP, cP, _, _, Nat.zero_le _, rfl, rfl, HL7.out, HD6.out⟩
      case round =>
        clear HL7 HD6
        obtain ⟨K, zk, aX, cX, loX, hiX, hK, rfl, hzk, hF, hds⟩ := hrel
        have HL := Lib.hid hF
        by_cases hlt : K < ds.length
        · obtain ⟨b1, o1, ⟨k0, r0, c0, t0, v0, g0⟩, rfl, hdk, hb1, _⟩ := hds.at hlt
          have hbB : b1 < BX := hLB _ rfl
          have hok : dmOk k0 r0 c0 t0 v0 g0 = true := List.all_eq_true.1 HALL.out _ (List.mem_of_getElem? hdk)
          have hzl : zk.length = N * M := by rw [hzk]; exact dmsL_len HXL.out _
          have hzg : Greys zk := by rw [hzk]; exact dmsL_greys HGR.out _ (fun d hd => List.all_eq_true.1 HALL.out _ (List.mem_of_mem_take hd))
          obtain ⟨zz, hzz⟩ : ∃ zz, dmgL k0 r0 c0 t0 v0 g0 N M zk = zz := ⟨_, rfl⟩
          have hnx : dmsL N M (ds.take (K + 1)) xs = zz := by rw [take_snoc' hdk, dmsL_snoc, ← hzk, ← hzz]; rfl
          have har : ∀ W, RetAp W (N : Int) (M : Int) zk [⟨k0, r0, c0, t0, v0, g0⟩] = RetRC W N M zz 0 := fun W => by
            rw [RetAp, if_pos (ras_of p1 p2 p3 p4 p5 hzl hzg), if_neg (by simp), if_pos (by simp [Dm.ok, hok]), Int.toNat_natCast, Int.toNat_natCast, ← hzz]
            rfl
          have HAR := Lib.hid har
          have HNX := Lib.hid hnx
          have HDK := Lib.hid hdk
          have HDOK := Lib.hid hok
          have HDS := Lib.hid hds
          have HZK : Hid (zk.length ≤ maxLen) := Lib.hid (by unfold maxLen; omega)
          have hzz40 : zk.length ≤ 40000 := by omega
          have hX0 : BX < wr.heap.size := hF.top 0 rfl
          clear har hnx hdk hok hds hzg hzl hzk hzz hF
          go_wp2_with fail
          obtain ⟨B, hBe⟩ : ∃ B, wr.heap.size = B := ⟨_, rfl⟩
          have HB : Hid (∀ G ∈ [Fact.box BX #[.int .i64 (N : Int), .int .i64 (M : Int), .slice aX zk.length cX] 28, Fact.own loX hiX (.slice aX zk.length cX) zk, Fact.box hiG #[.int .i64 (N : Int), .int .i64 (M : Int), .slice aG zs.length cG] 28, Fact.own loG hiG (.slice aG zs.length cG) zs, Fact.below w0], G.hi ≤ B) := Lib.hid (hBe ▸ facts_all HL.out)
          have HBe := Lib.hid hBe
          rw [hBe] at hb1 hX0
          clear hBe
          refine wp_region_rsF (Keep := KeepX) 8 [51, 52, 53, 54, 55, 56, 50, 57, 58, 11] (fun us => _)
            [xEq (.agg #[.int .i64 (N : Int), .int .i64 (M : Int), .slice aX zk.length cX]),
   xEq (.slice (some ⟨b1, o1, none⟩) ds.length cL),
   xEq (.int .i64 (K : Int)),
   xEq (.pointer (some ⟨b1, o1 + K * 6, none⟩)),
   xEq (.agg #[.int .i64 k0, .int .i64 r0, .int .i64 c0, .int .i64 t0, .int .i64 v0, .int .i64 g0]),
   xRasT B N M zz 0,
   xRasT B N M zz 0,
   xRas B N M zz,
   xEq (.int .i64 0),
   xBox B #[.int .i64 0, .int .i64 0, .slice none 0 0] 28]
            (StZ (fun W => DmsAt W (some ⟨b1, o1, none⟩) ds) [Fact.box BX #[.int .i64 (N : Int), .int .i64 (M : Int), .slice aX zk.length cX] 28, Fact.own loX hiX (.slice aX zk.length cX) zk, Fact.box hiG #[.int .i64 (N : Int), .int .i64 (M : Int), .slice aG zs.length cG] 28, Fact.own loG hiG (.slice aG zs.length cG) zs, Fact.below w0] B) _ _ 28 _ _ 58 (by kernel_rfl) (by kernel_rfl) (fun us => by simp [over, List.mapIdx_cons]; exact rfl) ?_ (fun w => Below.refl _ _) rfl rfl rfl rfl rfl rfl rfl (by kernel_rfl) (by kernel_rfl) (fun us v => by exact ⟨rfl, rfl⟩) ?_ ?_ ?_ ?_
          · exact ⟨⟨HL.out.drew, Nat.le_of_eq HBe.out.symm⟩, HDS.out.below ((Below.refl _ _).drew)⟩
          · refine ⟨?_, ?_, ?_, ?_, ?_, ?_, ?_, ?_, ?_, ?_, trivial⟩
            all_goals (intro us wr hst hd; rw [if_pos (by kernel_rfl)]; dsimp only)
            · clear hd
              have hA := boxF_cells (hst.1.1.get 0 rfl)
              go_simp
              exact rz_same hst rfl
            · clear hd
              go_simp
              exact rz_same hst rfl
            · clear hd
              go_simp
              exact rz_same hst rfl
            · have d52 : us 52 = .slice (some ⟨b1, o1, none⟩) ds.length cL := hd ⟨1, .data⟩ (by simp) rfl
              have d53 : us 53 = .int .i64 (K : Int) := hd ⟨2, .data⟩ (by simp) rfl
              clear hd
              go_simp
              exact rz_same hst rfl
            · have d54 : us 54 = .pointer (some ⟨b1, o1 + K * 6, none⟩) := hd ⟨3, .data⟩ (by simp) rfl
              clear hd
              obtain ⟨e0, e1, e2, e3, e4, e5⟩ := dms_cells hst.2 HDK.out
              dsimp only at e0 e1 e2 e3 e4 e5
              go_simp
              exact rz_same hst rfl
            · have d51 : us 51 = .agg #[.int .i64 (N : Int), .int .i64 (M : Int), .slice aX zk.length cX] := hd ⟨0, .data⟩ (by simp) rfl
              have d55 : us 55 = .agg #[.int .i64 k0, .int .i64 r0, .int .i64 c0, .int .i64 t0, .int .i64 v0, .int .i64 g0] := hd ⟨4, .data⟩ (by simp) rfl
              clear hd
              have HOX := Lib.hid (hst.1.1.get 1 rfl)
              go_simp
              refine rz_call keepDms hst ?_
              refine (applyDamage_any N M aX zk cX k0 r0 c0 t0 v0 g0 _ (ownF_ints HOX.out) HZK.out).mono ?_
              rw [HAR.out]
              rintro e w' ⟨a', c', he, ho, hb⟩
              exact ⟨_, he, hb, a', c', rfl, ho.weak hst.1.2⟩
            · have d56 : RasT B N M zz 0 (us 56) wr := hd ⟨5, .data⟩ (by simp) rfl
              clear hd
              obtain ⟨aS, cS, eS, hoS⟩ := d56
              have HOS := Lib.hid hoS
              clear hoS
              go_simp
              exact rz_same hst ⟨aS, cS, rfl, HOS.out⟩
            · have d50 : RasT B N M zz 0 (us 50) wr := hd ⟨6, .data⟩ (by simp) rfl
              clear hd
              obtain ⟨aS, cS, eS, hoS⟩ := d50
              have HOS := Lib.hid hoS
              clear hoS
              go_simp
              exact rz_same hst ⟨aS, cS, rfl, HOS.out⟩
            · have d50 : RasT B N M zz 0 (us 50) wr := hd ⟨6, .data⟩ (by simp) rfl
              clear hd
              obtain ⟨aS, cS, eS, hoS⟩ := d50
              clear hoS
              go_simp
              exact rz_same hst rfl
            · clear hd
              go_simp
              exact rz_new keepDms hst
          · intro us wr hst hd
            have dv : RasV2 B N M zz (us 57) wr := hd 7 (by simp) (by decide)
            have db : BoxV B #[.int .i64 0, .int .i64 0, .slice none 0 0] 28 (us 11) wr := hd 9 (by simp) (by decide)
            obtain ⟨aS, cS, ev, hoS⟩ := dv
            obtain ⟨bS, eb, hbB, hgS⟩ := db
            exact ⟨bS, _, _, _, eb, ev, hgS, by kernel_rfl, rfl, by kernel_rfl⟩
          · intro us wr hst hd
            have dt : RasT B N M zz 0 (us 50) wr := hd 6 (by simp) (by decide)
            obtain ⟨aS, cS, et, hoS⟩ := dt
            clear hoS hd
            refine ⟨.int .i64 0, fun w' => ?_, (show upd us (some 58) (.int .i64 0) 58 = .int .i64 0 from rfl)⟩
            go_simp
            try rfl
          · intro us wr hst hd
            have dv : RasV2 B N M zz (us 57) wr := hd 7 (by simp)
            have dc : us 58 = .int .i64 0 := hd 8 (by simp)
            have db : BoxV B #[.int .i64 0, .int .i64 0, .slice none 0 0] 28 (us 11) wr := hd 9 (by simp)
            clear hd
            obtain ⟨aS, cS, eSv, hoS⟩ := dv
            obtain ⟨bS, eSb, hbSB, hgS⟩ := db
            obtain ⟨loS, hiS, hfc⟩ := facts_boxOwn hst.1 HB.out hbSB hgS hoS (by decide)
            have HLz := Lib.hid (facts_row hfc #[.int .i64 (N : Int), .int .i64 (M : Int), .slice aS zz.length cS])
            have HDZ : Hid (DmsAt (wr.setRow bS #[.int .i64 (N : Int), .int .i64 (M : Int), .slice aS zz.length cS]) (some ⟨b1, o1, none⟩) ds) := Lib.hid (dms_setRow hst.2 (by omega))
            clear hfc hoS hst HB hbSB
            simp only [List.drop, List.length]
            refine wpList_store_row rfl 28 _ _ rfl bS #[.int .i64 (N : Int), .int .i64 (M : Int), .slice aS zz.length cS] eSb eSv _ _ hgS (by kernel_rfl) rfl (by kernel_rfl) ?_
            obtain ⟨w8, hww⟩ : ∃ W, wr.setRow bS #[.int .i64 (N : Int), .int .i64 (M : Int), .slice aS zz.length cS] = W := ⟨_, rfl⟩
            rw [hww] at HLz HDZ
            rw [hww]
            clear hww hgS
            obtain ⟨e0, e1, e2, e3, e4, e5⟩ := dms_cells HDZ.out HDK.out
            dsimp only at e0 e1 e2 e3 e4 e5
            go_wp2_with fail
            clear dc eSv eSb e0 e1 e2 e3 e4 e5
            refine (isDamage_val HDOK.out).mono ?_
            rintro e w9 ⟨rfl, hb⟩
            have hF := HLz.out.below hb
            have HD9 := Lib.hid (HDZ.out.below hb)
            clear hb HLz HDZ
            have hY := boxF_cells (hF.get 0 rfl)
            have hXc := boxF_cells (hF.get 2 rfl)
            have hXf := boxF_free (hF.get 2 rfl)
            have HF := Lib.hid hF
            clear hF
            go_wp2_with fail
            have hF2 := facts_x HF.out (.int .i64 (N : Int)) (.int .i64 (M : Int)) (.slice aS zz.length cS)
            have hD2 := dms_set3 (g := BX) (v0 := .int .i64 (N : Int)) (v1 := .int .i64 (M : Int)) (v2 := .slice aS zz.length cS) HD9.out (by omega)
            refine ⟨⟨K + 1, zz, aS, cS, loS, hiS, ?_, ?_, ?_, ?_, ?_⟩, ?_⟩
            · omega
            · go_num
            · exact HNX.out.symm
            · exact hF2
            · exact hD2
            · simp [intOf]; omega
        · have hzs : zk = zs := by rw [hzk, List.take_of_length_le (by omega), HZE.out]
          subst hzs
          have hX := boxF_cells (hF.get 0 rfl)
          have hG := boxF_cells (hF.get 2 rfl)
          have HOX := Lib.hid (hF.get 1 rfl)
          have HOG := Lib.hid (hF.get 3 rfl)
          clear hF hds hzk
          go_wp2_with fail
          refine (likeRaster_same (ownF_ints HOX.out) (ownF_ints HOG.out) HZ.out).mono ?_
          rintro e w9 ⟨rfl, hb⟩
          have HL9 := Lib.hid (HL.out.below hb)
          clear hb
          go_wp2_with fail
          go_ret
          exact ⟨rfl, HL9.out.get 4 rfl⟩
    · have hcn : (cd != 0) = true := by simp [hcd]
      go_wp2_with fail
      go_ret
      exact ⟨rfl, HL5.out.get 6 rfl⟩
  · have hbig : decide ((4096 : Int) < n) = true := by simp; omega
    go_enter Try.func5, Try.ntmps5
    go_wp2_with fail
    refine (big_any a n c _).mono ?_
    rintro e w0 ⟨rfl, rfl⟩
    rw [hbig]
    go_wp2_with fail
    go_ret
    exact ⟨rfl, Below.refl _ _⟩

end Go.Proofs.Ythnjfdhijpfekaa
