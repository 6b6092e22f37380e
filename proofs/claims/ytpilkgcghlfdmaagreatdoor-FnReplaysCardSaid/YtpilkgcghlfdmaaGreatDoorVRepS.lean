import Derived.Test.YtpilkgcghlfdmaaGreatDoorVRep
import Derived.Test.YtpilkgcghlfdmaaGreatDoorVApS
import Derived.Test.YtpilkgcghlfdmaaGreatDoorVBoxKb
import Derived.Test.YtpilkgcghlfdmaaGreatDoorVRG4
namespace Go.Proofs.YtpilkgcghlfdmaaGreatDoor
open Go.RowKit

def SesV (B : Nat) (p : ByteArray) (x1 x2 x3 x4 : Int) (xs : List Int) (v : Value) (W : World) : Prop := ∃ a c, v = .agg #[.string p, .int .i64 x1, .int .i64 x2, .int .i64 x3, .int .i64 x4, .slice a xs.length c] ∧ OwnI W B (.slice a xs.length c) xs
def SesT (B : Nat) (p : ByteArray) (x1 x2 x3 x4 : Int) (xs : List Int) (cd : Int) (v : Value) (W : World) : Prop := ∃ a c, v = .tuple #[.agg #[.string p, .int .i64 x1, .int .i64 x2, .int .i64 x3, .int .i64 x4, .slice a xs.length c], .int .i64 cd] ∧ OwnI W B (.slice a xs.length c) xs
def spSesV (B : Nat) (p : ByteArray) (x1 x2 x3 x4 : Int) (xs : List Int) : Sp KB := ⟨SesV B p x1 x2 x3 x4 xs, fun _ _ _ hk ⟨a, c, e, h⟩ => ⟨a, c, e, h.grown hk⟩⟩
def spSesT (B : Nat) (p : ByteArray) (x1 x2 x3 x4 : Int) (xs : List Int) (cd : Int) : Sp KB := ⟨SesT B p x1 x2 x3 x4 xs cd, fun _ _ _ hk ⟨a, c, e, h⟩ => ⟨a, c, e, h.grown hk⟩⟩

/-- what is kept in a round: the session's box, its states -/
structure ReSt (w : World) (p : ByteArray) (x1 x2 x3 x4 : Int) (ys : List Int) (a : Option Addr) (c base : Nat) (wr : World) : Prop where
  box : wr.heap[w.heap.size]? = some (.cells #[.string p, .int .i64 x1, .int .i64 x2, .int .i64 x3, .int .i64 x4, .slice a ys.length c] 37 (0, 0))
  res : wr.heap[w.heap.size + 1]? = some (.cells #[.string ⟨#[]⟩, .int .i64 0, .int .i64 0, .int .i64 0, .int .i64 0, .slice none 0 0] 37 (0, 0))
  own : OwnI wr base (.slice a ys.length c) ys
  nob : ∀ k, Value.ownBlock (.slice a ys.length c) = some k → k ≠ w.heap.size ∧ k ≠ w.heap.size + 1
  bel : Below w.heap.size w wr

/-- a session that has had records -/
def RetRe (w : World) (base : Nat) (p : ByteArray) (x1 x2 x3 x4 : Int) (ys : List Int) (n : Int) (e : Ending) (w' : World) : Prop :=
  ∃ a c, e = .returned (.tuple #[.agg #[.string p, .int .i64 x1, .int .i64 x2, .int .i64 x3, .int .i64 x4, .slice a ys.length c], .int .i64 n]) ∧ OwnI w' base (.slice a ys.length c) ys ∧ Below w.heap.size w w'

theorem ReSt.other {w : World} {p : ByteArray} {x1 x2 x3 x4 : Int} {ys : List Int} {a : Option Addr} {c base b : Nat} {wr W : World} (h : ReSt w p x1 x2 x3 x4 ys a c base wr) (hg : wr.grownBy W (some b)) (h1 : b ≠ w.heap.size) (h2 : b ≠ w.heap.size + 1) (h3 : ∀ k, Value.ownBlock (.slice a ys.length c) = some k → k ≠ b) (h4 : w.heap.size ≤ b) : ReSt w p x1 x2 x3 x4 ys a c base W :=
  ⟨(hg.block _ (blkLt h.box) (fun e => h1 (Option.some.inj e).symm)).trans h.box, (hg.block _ (blkLt h.res) (fun e => h2 (Option.some.inj e).symm)).trans h.res, h.own.other hg (fun k hk e => h3 k hk (Option.some.inj e).symm), h.nob, h.bel.trans (below_of_grownBy hg h.bel.size (fun k e => by cases e; exact h4))⟩
theorem ReSt.below {w : World} {p : ByteArray} {x1 x2 x3 x4 : Int} {ys : List Int} {a : Option Addr} {c base : Nat} {wr W : World} (h : ReSt w p x1 x2 x3 x4 ys a c base wr) (hb : Below wr.heap.size wr W) : ReSt w p x1 x2 x3 x4 ys a c base W :=
  ⟨blkK hb h.box, blkK hb h.res, h.own.grown hb, h.nob, bt0 h.bel hb (Nat.le_refl _)⟩
theorem grown6 (W : World) (b : Nat) (v0 v1 v2 v3 v4 v5 : Value) : W.grownBy ((((((W.setCell ⟨b, 0, none⟩ v0).setCell ⟨b, 1, none⟩ v1).setCell ⟨b, 2, none⟩ v2).setCell ⟨b, 3, none⟩ v3).setCell ⟨b, 4, none⟩ v4).setCell ⟨b, 5, none⟩ v5) (some b) :=
  grownBy_trans (grownBy_trans (grownBy_trans (grownBy_trans (grownBy_trans (grownBy_set _ _ _ _) (grownBy_set _ _ _ _)) (grownBy_set _ _ _ _)) (grownBy_set _ _ _ _)) (grownBy_set _ _ _ _)) (grownBy_set _ _ _ _)
theorem stored6 {W : World} {b : Nat} {u0 u1 u2 u3 u4 u5 : Value} {t : TypeId} (h : W.heap[b]? = some (.cells #[u0, u1, u2, u3, u4, u5] t (0, 0))) (v0 v1 v2 v3 v4 v5 : Value) : ((((((W.setCell ⟨b, 0, none⟩ v0).setCell ⟨b, 1, none⟩ v1).setCell ⟨b, 2, none⟩ v2).setCell ⟨b, 3, none⟩ v3).setCell ⟨b, 4, none⟩ v4).setCell ⟨b, 5, none⟩ v5).heap[b]? = some (.cells #[v0, v1, v2, v3, v4, v5] t (0, 0)) :=
  src_set (src_set (src_set (src_set (src_set (src_set h 0 v0) 1 v1) 2 v2) 3 v3) 4 v4) 5 v5

set_option maxRecDepth 100000 in
set_option maxHeartbeats 1000000 in
theorem l33Replay_any (p : ByteArray) (x1 x2 x4 : Int) (n3 : Nat) (a : Option Addr) (xs : List Int) (c base : Nat) (aL : Option Addr) (l : List Rc) (cL : Nat) (w : World) (ho : OwnI w base (.slice a xs.length c) xs) (hb : base ≤ w.heap.size) (hl : xs.length = n3) (hn3 : n3 ≤ 200) (hs : ∀ x ∈ xs, 0 ≤ x ∧ x ≤ 4) (hL : rcE.At w aL l) (hl3 : l.length ≤ 300) :
    Calls Tryz.prog 41 #[.agg #[.string p, .int .i64 x1, .int .i64 x2, .int .i64 n3, .int .i64 x4, .slice a xs.length c], .slice aL l.length cL] w (RetRe w base p x1 x2 n3 x4 (repX n3 xs l) (repN n3 xs l)) := by
  have HLL := Lib.hid hL
  have HXL := Lib.hid hl
  have HXS := Lib.hid hs
  have H0 : Hid (ReSt w p x1 x2 n3 x4 xs a c base ((w.alloc (.cells #[.string p, .int .i64 x1, .int .i64 x2, .int .i64 n3, .int .i64 x4, .slice a xs.length c] 37 (0, 0))).alloc (.cells #[.string ⟨#[]⟩, .int .i64 0, .int .i64 0, .int .i64 0, .int .i64 0, .slice none 0 0] 37 (0, 0)))) := Lib.hid ⟨(heap2 w _ _).1, (heap2 w _ _).2, ho.grown (ba2 w _ _), fun k hk => by have := ho.hi k hk; omega, ba2 w _ _⟩
  clear hL hl hs ho
  go_enter Tryz.func41, Tryz.ntmps41
  go_wp2_with fail
  go_loopw [6, 7, 8, 9] (fun q i _ _ wr => ∃ (k : Nat) (ys : List Int) (N : Nat) (a' : Option Addr) (c' : Nat), k ≤ l.length ∧ i = .int .i64 k ∧ ys = repX n3 xs (l.take k) ∧ N = repN n3 xs (l.take k) ∧ q = .int .i64 (N : Int) ∧ ReSt w p x1 x2 n3 x4 ys a' c' base wr) (fun _ i _ _ _ => l.length - (intOf i).toNat)
  case atStart => exact ⟨0, xs, 0, a, c, Nat.zero_le _, rfl, rfl, rfl, rfl, H0.out⟩
  case round =>
    clear H0
    obtain ⟨k, ys, N, a', c', hk, rfl, hys, hN, rfl, hst⟩ := hrel
    have HYS := Lib.hid hys
    have HN := Lib.hid hN
    have HST := Lib.hid hst
    have hNk : N ≤ 300 := by rw [hN]; have := repN_le n3 xs (l.take k); have h2 := List.length_take_le k l; omega
    have hyl : ys.length = n3 := by rw [hys, repX_len, HXL.out]
    have HYL := Lib.hid hyl
    have HYR : Hid (∀ x ∈ ys, 0 ≤ x ∧ x ≤ 4) := Lib.hid (by rw [hys]; exact repX_range _ _ _ HXS.out)
    obtain ⟨hcb, hfb⟩ := heap_cellR hst.box
    have hwb := blkLt hst.res
    clear hys hN hst hyl
    by_cases hlt : k < l.length
    · obtain ⟨r, hr⟩ : ∃ r, l[k]? = some r := ⟨_, List.getElem?_eq_getElem hlt⟩
      obtain ⟨b1, o1, rfl, hbl, h0, h1⟩ := rc_at (HLL.out.below HST.out.bel) hr
      have HT := Lib.hid (rep_take (x3 := n3) (xs := xs) hr)
      have HC0 := Lib.hid h0
      have HC1 := Lib.hid h1
      have HCB := Lib.hid hcb
      have hlti : (k : Int) < (l.length : Int) := by omega
      clear hr h0 h1 hcb hfb
      obtain ⟨pv, y1, y2, y3, y4, zs, cd, har, hcase⟩ : ∃ (pv : ByteArray) (y1 y2 y3 y4 : Int) (zs : List Int) (cd : Int), (∀ W, RetAr W p x1 x2 n3 x4 (apXs r.k r.n n3 ys) (apC r.k r.n n3 ys) = RetSessC W pv y1 y2 y3 y4 zs cd) ∧ cd = apC r.k r.n n3 ys ∧ (cd = 0 → pv = p ∧ y1 = x1 ∧ y2 = x2 ∧ y3 = n3 ∧ y4 = x4 ∧ zs = apXs r.k r.n n3 ys) := by
        by_cases h : apC r.k r.n n3 ys = 0
        · exact ⟨p, x1, x2, n3, x4, apXs r.k r.n n3 ys, 0, fun W => by unfold RetAr; rw [if_pos h], h.symm, fun _ => ⟨rfl, rfl, rfl, rfl, rfl, rfl⟩⟩
        · exact ⟨⟨#[]⟩, 0, 0, 0, 0, [], apC r.k r.n n3 ys, fun W => by unfold RetAr; rw [if_neg h], rfl, fun h' => absurd h' h⟩
      have HAR := Lib.hid har
      have HCS := Lib.hid hcase
      clear har hcase
      go_wp2_with fail
      refine wp_region_rsF (Keep := KB) 8 [17, 18, 19, 20, 21, 22, 16, 23, 24, 8] (fun us => _)
        [spE (.agg #[.string p, .int .i64 x1, .int .i64 x2, .int .i64 n3, .int .i64 x4, .slice a' ys.length c']),
         spE (.slice (some ⟨b1, o1, none⟩) l.length cL), spE (.int .i64 (k : Int)), spE (.pointer (some ⟨b1, o1 + k * 2, none⟩)), spE (.agg #[.int .i64 r.k, .int .i64 r.n]),
         spSesT wr.heap.size pv y1 y2 y3 y4 zs cd, spSesT wr.heap.size pv y1 y2 y3 y4 zs cd, spSesV wr.heap.size pv y1 y2 y3 y4 zs, spE (.int .i64 cd),
         spBox wr.heap.size #[.string ⟨#[]⟩, .int .i64 0, .int .i64 0, .int .i64 0, .int .i64 0, .slice none 0 0] 37]
        (StX wr) _ _ 37 _ _ 24 (by kernel_rfl) (by kernel_rfl) (fun us => by simp [over, List.mapIdx_cons]; exact rfl) (stX0 _) kbr rfl rfl rfl rfl rfl rfl rfl (by kernel_rfl) (by kernel_rfl) (fun us v => by exact ⟨rfl, rfl⟩) ?_ ?_ ?_ ?_
      · refine ⟨?_, ?_, ?_, ?_, ?_, ?_, ?_, ?_, ?_, ?_, trivial⟩
        all_goals (intro us wx hst hd; rw [if_pos (by kernel_rfl)]; dsimp only)
        · clear hd
          have hB := boxB hst HCB.out (by omega)
          go_simp
          exact kb_same hst rfl
        · clear hd
          go_simp
          exact kb_same hst rfl
        · clear hd
          go_simp
          exact kb_same hst rfl
        · have d18 : us 18 = .slice (some ⟨b1, o1, none⟩) l.length cL := hd ⟨1, .data⟩ (by simp) rfl
          have d19 : us 19 = .int .i64 (k : Int) := hd ⟨2, .data⟩ (by simp) rfl
          clear hd
          go_simp
          exact kb_same hst rfl
        · have d20 : us 20 = .pointer (some ⟨b1, o1 + k * 2, none⟩) := hd ⟨3, .data⟩ (by simp) rfl
          clear hd
          have h0 := (hst.cell (p := ⟨b1, o1 + k * 2, none⟩) hbl).trans HC0.out
          have h1 := (hst.cell (p := ⟨b1, o1 + k * 2 + 1, none⟩) hbl).trans HC1.out
          go_simp
          exact kb_same hst rfl
        · have d17 : us 17 = .agg #[.string p, .int .i64 x1, .int .i64 x2, .int .i64 n3, .int .i64 x4, .slice a' ys.length c'] := hd ⟨0, .data⟩ (by simp) rfl
          have d21 : us 21 = .agg #[.int .i64 r.k, .int .i64 r.n] := hd ⟨4, .data⟩ (by simp) rfl
          clear hd
          have hox := HST.out.own.grown hst
          have h9 := l33Apply_any p x1 x2 n3 x4 a' ys c' r.k r.n wx hox.ints (by rw [HYL.out]) HYR.out (by rw [HYL.out]; omega) hox.slc
          rw [HAR.out] at h9
          go_simp
          exact h9.mono fun e w' ⟨a9, c9, he, ho, hb⟩ => ⟨_, he, kb_below hst hb ⟨a9, c9, rfl, ho.weak hst.size⟩⟩
        · have d22 : SesT wr.heap.size pv y1 y2 y3 y4 zs cd (us 22) wx := hd ⟨5, .data⟩ (by simp) rfl
          clear hd
          obtain ⟨aS, cS, eS, hoS⟩ := d22
          have HOS := Lib.hid hoS
          clear hoS
          go_simp
          exact kb_same hst ⟨aS, cS, rfl, HOS.out⟩
        · have d16 : SesT wr.heap.size pv y1 y2 y3 y4 zs cd (us 16) wx := hd ⟨6, .data⟩ (by simp) rfl
          clear hd
          obtain ⟨aS, cS, eS, hoS⟩ := d16
          have HOS := Lib.hid hoS
          clear hoS
          go_simp
          exact kb_same hst ⟨aS, cS, rfl, HOS.out⟩
        · have d16 : SesT wr.heap.size pv y1 y2 y3 y4 zs cd (us 16) wx := hd ⟨6, .data⟩ (by simp) rfl
          clear hd
          obtain ⟨aS, cS, eS, hoS⟩ := d16
          clear hoS
          go_simp
          exact kb_same hst rfl
        · clear hd
          go_simp
          exact kb_new hst (Nat.le_refl _)
      · intro us wx hst hd
        have dv : SesV wr.heap.size pv y1 y2 y3 y4 zs (us 23) wx := hd 7 (by simp) (by decide)
        have db : BoxK wr.heap.size #[.string ⟨#[]⟩, .int .i64 0, .int .i64 0, .int .i64 0, .int .i64 0, .slice none 0 0] 37 (us 8) wx := hd 9 (by simp) (by decide)
        obtain ⟨aS, cS, ev, hoS⟩ := dv
        obtain ⟨bS, eb, hbB, hgS⟩ := db
        exact ⟨bS, _, _, _, eb, ev, hgS, by kernel_rfl, rfl, by kernel_rfl⟩
      · intro us wx hst hd
        have dt : SesT wr.heap.size pv y1 y2 y3 y4 zs cd (us 16) wx := hd 6 (by simp) (by decide)
        obtain ⟨aS, cS, et, hoS⟩ := dt
        clear hoS hd
        refine ⟨.int .i64 cd, fun w' => ?_, (show upd us (some 24) (.int .i64 cd) 24 = .int .i64 cd from rfl)⟩
        go_simp
        try rfl
      · intro us wx hst hd
        have dv : SesV wr.heap.size pv y1 y2 y3 y4 zs (us 23) wx := hd 7 (by simp)
        have dc : us 24 = .int .i64 cd := hd 8 (by simp)
        have db : BoxK wr.heap.size #[.string ⟨#[]⟩, .int .i64 0, .int .i64 0, .int .i64 0, .int .i64 0, .slice none 0 0] 37 (us 8) wx := hd 9 (by simp)
        clear hd
        obtain ⟨aS, cS, eSv, hoS⟩ := dv
        obtain ⟨bS, eSb, hbSB, hgS⟩ := db
        simp only [List.drop, List.length]
        rw [eSv, dc, eSb]
        have HGS := Lib.hid hgS
        have HOS := Lib.hid hoS
        have HBX := Lib.hid (blkK hst HST.out.box)
        have HRX := Lib.hid (blkK hst HST.out.res)
        have HSTX := Lib.hid hst
        obtain ⟨hcS, hfS⟩ := heap_cellR hgS
        obtain ⟨hcX, hfX⟩ := heap_cellR HBX.out
        have hbS := blkLt hgS
        have hne1 : bS ≠ w.heap.size := by omega
        have hne2 : w.heap.size ≠ bS := by omega
        have hwx : w.heap.size + 1 < wx.heap.size := blkLt HRX.out
        clear eSv dc eSb hgS hoS hst
        by_cases hc0 : cd = 0
        · obtain ⟨rfl, rfl, rfl, rfl, rfl, hzs⟩ := HCS.out.2 hc0
          subst hc0
          have HZS := Lib.hid hzs
          clear hzs
          go_wp2_with fail
          have HG1 := Lib.hid (grown6 wx bS (.string pv) (.int .i64 y1) (.int .i64 y2) (.int .i64 n3) (.int .i64 y4) (.slice aS zs.length cS))
          have hnb := own_ne_box HOS.out HGS.out (by decide)
          have ho1 := HOS.out.other HG1.out (fun k hk e => hnb (by rw [hk, ← e]))
          have h1 := HST.out.below HSTX.out
          have h2 := h1.other HG1.out hne1 (by omega) (fun k hk e => by have := HST.out.own.hi k hk; omega) (by omega)
          generalize ((((((wx.setCell ⟨bS, 0, none⟩ (.string pv)).setCell ⟨bS, 1, none⟩ (.int .i64 y1)).setCell ⟨bS, 2, none⟩ (.int .i64 y2)).setCell ⟨bS, 3, none⟩ (.int .i64 n3)).setCell ⟨bS, 4, none⟩ (.int .i64 y4)).setCell ⟨bS, 5, none⟩ (.slice aS zs.length cS)) = W6 at *
          have hlo : ∀ k, Value.ownBlock (.slice aS zs.length cS) = some k → wr.heap.size ≤ k := fun k hk => (World.ownsRow.lt ho1 k hk).1
          have hbw : base ≤ wr.heap.size := by have := HST.out.bel.size; omega
          have HG2 := grown6 W6 w.heap.size (.string pv) (.int .i64 y1) (.int .i64 y2) (.int .i64 n3) (.int .i64 y4) (.slice aS zs.length cS)
          have hst9 := stored6 h2.box (.string pv) (.int .i64 y1) (.int .i64 y2) (.int .i64 n3) (.int .i64 y4) (.slice aS zs.length cS)
          refine ⟨⟨k + 1, zs, N, aS, cS, by omega, by go_num, ?_, ?_, rfl, ⟨hst9, ?_, ?_, ?_, ?_⟩⟩, by simp [intOf]; omega⟩
          · rw [HT.out.1, ← HYS.out]; exact HZS.out
          · rw [HT.out.2, ← HYS.out, ← HN.out, if_pos (HCS.out.1).symm]; rfl
          · exact (HG2.block _ (blkLt h2.res) (fun e => by have := Option.some.inj e; omega)).trans h2.res
          · exact (ho1.other HG2 (fun k hk e => by have := hlo k hk; have := Option.some.inj e; omega)).weak hbw
          · intro k hk; have := hlo k hk; omega
          · exact h2.bel.trans (below_of_grownBy HG2 h2.bel.size (fun k e => by cases e; exact Nat.le_refl _))
        · have hc1 : (cd != 0) = true := by simpa using hc0
          have HC9 := Lib.hid hc0
          clear hc0
          go_wp2_with fail
          have HG1 := grown6 wx bS (.string pv) (.int .i64 y1) (.int .i64 y2) (.int .i64 y3) (.int .i64 y4) (.slice aS zs.length cS)
          have h2 := (HST.out.below HSTX.out).other HG1 hne1 (by omega) (fun k hk e => by have := HST.out.own.hi k hk; omega) (by omega)
          have hc9 : apC r.k r.n n3 ys ≠ 0 := by rw [← HCS.out.1]; exact HC9.out
          have hzz : apXs r.k r.n n3 ys = ys := by
            unfold apXs
            rw [if_neg]
            intro h
            unfold apOk at h
            rw [Bool.and_eq_true] at h
            exact hc9 (by unfold apC; rw [if_pos h.1, if_pos h.2])
          exact ⟨⟨k + 1, ys, N + 1, a', c', by omega, by go_num, by rw [HT.out.1, ← HYS.out, hzz], by rw [HT.out.2, ← HYS.out, ← HN.out, if_neg hc9], by go_num, h2⟩, by simp [intOf]; omega⟩
    · obtain rfl : k = l.length := by omega
      have HFX : Hid (ys = repX n3 xs l ∧ N = repN n3 xs l) := Lib.hid (by have h1 := HYS.out; have h2 := HN.out; rw [List.take_length] at h1 h2; exact ⟨h1, h2⟩)
      obtain ⟨hcr, hfr⟩ := heap_cellR HST.out.res
      have hne : w.heap.size ≠ w.heap.size + 1 := by omega
      go_wp2_with fail
      refine bodyPost_ret (v := .tuple #[.agg #[.string p, .int .i64 x1, .int .i64 x2, .int .i64 n3, .int .i64 x4, .slice a' ys.length c'], .int .i64 N]) (by simp [results, Tryz.results41, go_sem, hcr]) rfl ?_
      rw [← HFX.out.1, ← HFX.out.2]
      have HG := grown6 wr (w.heap.size + 1) (.string p) (.int .i64 x1) (.int .i64 x2) (.int .i64 n3) (.int .i64 x4) (.slice a' ys.length c')
      exact ⟨a', c', rfl, HST.out.own.other HG (fun k hk e => (HST.out.nob k hk).2 (Option.some.inj e).symm), HST.out.bel.trans (below_of_grownBy HG HST.out.bel.size (fun k e => by cases e; omega))⟩

end Go.Proofs.YtpilkgcghlfdmaaGreatDoor
