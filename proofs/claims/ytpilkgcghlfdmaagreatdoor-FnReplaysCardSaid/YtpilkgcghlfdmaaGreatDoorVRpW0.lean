import Derived.Test.YtpilkgcghlfdmaaGreatDoorVRecW
import Derived.Test.YtpilkgcghlfdmaaGreatDoorVRepT
import Derived.Test.YtpilkgcghlfdmaaGreatDoorVDrawRp
namespace Go.Proofs.YtpilkgcghlfdmaaGreatDoor
open Go.RowKit

theorem rc_take {w : World} {a : Option Addr} {l : List Rc} (h : rcE.At w a l) (k : Nat) : rcE.At w a (l.take k) := fun i x hx => h i x (by
  rw [List.getElem?_take] at hx
  split at hx
  · exact hx
  · cases hx)
theorem rc_shape {w : World} {base : Nat} {a : Option Addr} {n c : Nat} {l : List Rc} (h : rcE.Own w base (.slice a n c) l) : l.length ≤ c ∧ a.map (fun x => x.add 0) = a := by
  rcases h.2 with ⟨h1, h0⟩ | ⟨g, cap, cur, h1, hb, hg, q1, q2, q3, q4⟩
  · simp only [Value.slice.injEq] at h1
    obtain ⟨rfl, rfl, rfl⟩ := h1
    exact ⟨by omega, rfl⟩
  · simp only [Value.slice.injEq] at h1
    obtain ⟨rfl, rfl, rfl⟩ := h1
    exact ⟨q1, by simp [Addr.add_lit]⟩
theorem jrn_take {l : List Rc} (h : l.length ≤ 300) (hok : ∀ r ∈ l, r.ok = true) (k : Nat) : jrnS (l.take k) = (textB (l.take k), 0) ∧ recS (textB (l.take k)) = l.take k ∧ overS (textB (l.take k)) = false ∧ (textB (l.take k)).size ≤ 6000 := by
  have h1 : (l.take k).length ≤ 300 := by rw [List.length_take]; omega
  have h2 : ∀ r ∈ l.take k, r.ok = true := fun r hr => hok r (List.mem_of_mem_take hr)
  have h3 : codeJ (l.take k) = 0 := by unfold codeJ; rw [if_neg (by omega), if_pos (List.all_eq_true.2 h2)]
  exact ⟨by rw [jrnS, if_pos h3], recS_text h1 h2, overS_text h1 h2, textB_small h1 h2⟩
theorem sess_of {p : ByteArray} {x1 x2 x4 : Int} {n3 : Nat} {ys : List Int} (hb : isBatchB p x1 x2 n3 x4 = true) (hl : ys.length = n3) (hr : ∀ x ∈ ys, 0 ≤ x ∧ x ≤ 4) : isSessB p x1 x2 n3 x4 ys = true := by
  simp only [isSessB, Bool.and_eq_true, Bool.not_eq_true', bne_eq_false_iff_eq]
  exact ⟨⟨hb, by rw [hl]⟩, List.all_eq_true.2 fun y hy => inB_iff.2 (hr y hy)⟩

/-- what is kept in the law's round: the session behind the records so far, the whole journal's session, the records -/
structure LwSt (w : World) (B bY bX : Nat) (p : ByteArray) (x1 x2 x3 x4 : Int) (ys : List Int) (a : Option Addr) (c : Nat) (xs : List Int) (aX : Option Addr) (cX : Nat) (l : List Rc) (aL : Option Addr) (cL : Nat) (wr : World) : Prop where
  box : wr.heap[bY]? = some (.cells #[.string p, .int .i64 x1, .int .i64 x2, .int .i64 x3, .int .i64 x4, .slice a ys.length c] 37 (0, 0))
  boxX : wr.heap[bX]? = some (.cells #[.string p, .int .i64 x1, .int .i64 x2, .int .i64 x3, .int .i64 x4, .slice aX xs.length cX] 37 (0, 0))
  own : OwnI wr B (.slice a ys.length c) ys
  ownX : OwnI wr B (.slice aX xs.length cX) xs
  lst : rcE.Own wr B (.slice aL l.length cL) l
  nobL : ∀ k, Value.ownBlock (.slice aL l.length cL) = some k → k < bY
  bel : Below w.heap.size w wr
theorem LwSt.other {w : World} {B bY bX b : Nat} {p : ByteArray} {x1 x2 x3 x4 : Int} {ys : List Int} {a : Option Addr} {c : Nat} {xs : List Int} {aX : Option Addr} {cX : Nat} {l : List Rc} {aL : Option Addr} {cL : Nat} {wr W : World} (h : LwSt w B bY bX p x1 x2 x3 x4 ys a c xs aX cX l aL cL wr) (hg : wr.grownBy W (some b)) (h1 : wr.heap.size ≤ b ∨ (b < wr.heap.size ∧ ∃ cs, wr.heap[b]? = some (.cells cs 37 (0, 0)) ∧ bY < b)) (hbX : bX < bY) (hw : w.heap.size ≤ bY) : LwSt w B bY bX p x1 x2 x3 x4 ys a c xs aX cX l aL cL W := by
  have hb : bY < b := by
    rcases h1 with h1 | ⟨_, cs, _, h2⟩
    · have := blkLt h.box; omega
    · exact h2
  have no : ∀ {v : Value} {zs : List Int}, OwnI wr B v zs → ∀ k, v.ownBlock = some k → (some b : Option Nat) ≠ some k := by
    intro v zs ho k hk e
    obtain rfl := Option.some.inj e
    rcases h1 with h1 | ⟨_, cs, hc, _⟩
    · have := (World.ownsRow.lt ho _ hk).2; omega
    · exact own_ne_box ho hc (by decide) hk
  exact ⟨(hg.block _ (blkLt h.box) (fun e => by have := Option.some.inj e; omega)).trans h.box, (hg.block _ (blkLt h.boxX) (fun e => by have := Option.some.inj e; omega)).trans h.boxX,
    h.own.other hg (no h.own), h.ownX.other hg (no h.ownX), h.lst.other hg (fun k hk e => by have := h.nobL k hk; have := Option.some.inj e; omega), h.nobL,
    h.bel.trans (below_of_grownBy hg h.bel.size (fun k e => by cases e; omega))⟩
theorem LwSt.below {w : World} {B bY bX : Nat} {p : ByteArray} {x1 x2 x3 x4 : Int} {ys : List Int} {a : Option Addr} {c : Nat} {xs : List Int} {aX : Option Addr} {cX : Nat} {l : List Rc} {aL : Option Addr} {cL : Nat} {wr W : World} (h : LwSt w B bY bX p x1 x2 x3 x4 ys a c xs aX cX l aL cL wr) (hb : Below wr.heap.size wr W) : LwSt w B bY bX p x1 x2 x3 x4 ys a c xs aX cX l aL cL W :=
  ⟨blkK hb h.box, blkK hb h.boxX, h.own.grown hb, h.ownX.grown hb, h.lst.grown hb, h.nobL, bt0 h.bel hb (Nat.le_refl _)⟩
theorem LwSt.stored {w : World} {B bY bX : Nat} {p : ByteArray} {x1 x2 x3 x4 : Int} {ys : List Int} {a : Option Addr} {c : Nat} {xs : List Int} {aX : Option Addr} {cX : Nat} {l : List Rc} {aL : Option Addr} {cL : Nat} {wr : World} (h : LwSt w B bY bX p x1 x2 x3 x4 ys a c xs aX cX l aL cL wr) {zs : List Int} {aS : Option Addr} {cS : Nat} (ho : OwnI wr B (.slice aS zs.length cS) zs) (hbX : bX < bY) (hw : w.heap.size ≤ bY) :
    LwSt w B bY bX p x1 x2 x3 x4 zs aS cS xs aX cX l aL cL ((((((wr.setCell ⟨bY, 0, none⟩ (.string p)).setCell ⟨bY, 1, none⟩ (.int .i64 x1)).setCell ⟨bY, 2, none⟩ (.int .i64 x2)).setCell ⟨bY, 3, none⟩ (.int .i64 x3)).setCell ⟨bY, 4, none⟩ (.int .i64 x4)).setCell ⟨bY, 5, none⟩ (.slice aS zs.length cS)) := by
  have HG := grown6 wr bY (.string p) (.int .i64 x1) (.int .i64 x2) (.int .i64 x3) (.int .i64 x4) (.slice aS zs.length cS)
  exact ⟨stored6 h.box _ _ _ _ _ _, (HG.block _ (blkLt h.boxX) (fun e => by have := Option.some.inj e; omega)).trans h.boxX,
    ho.other HG (fun k hk e => own_ne_box ho h.box (by decide) (by rw [hk, ← e])), h.ownX.other HG (fun k hk e => own_ne_box h.ownX h.box (by decide) (by rw [hk, ← e])),
    h.lst.other HG (fun k hk e => by have := h.nobL k hk; have := Option.some.inj e; omega), h.nobL,
    h.bel.trans (below_of_grownBy HG h.bel.size (fun k e => by cases e; omega))⟩

/-- what a ReplayJournal comes to -/
structure RpIs (p : ByteArray) (x1 x2 x3 x4 : Int) (s : ByteArray) (pv : ByteArray) (y1 y2 y3 y4 : Int) (zs : List Int) (N : Nat) (cd : Int) : Prop where
  eq : ∀ W, RetRp W p x1 x2 x3 x4 s = RetS3 W pv y1 y2 y3 y4 zs N cd
  len : zs.length ≤ 200
  ok : cd = 0 → isBatchB p x1 x2 x3 x4 = true ∧ overS s = false ∧ p = pv ∧ x1 = y1 ∧ x2 = y2 ∧ x3 = y3 ∧ x4 = y4 ∧ zs = repX x3 (List.replicate x3.toNat 0) (recS s) ∧ N = repN x3 (List.replicate x3.toNat 0) (recS s)
theorem rpIs (p : ByteArray) (x1 x2 x3 x4 : Int) (s : ByteArray) : ∃ pv y1 y2 y3 y4 zs N cd, RpIs p x1 x2 x3 x4 s pv y1 y2 y3 y4 zs N cd := by
  rcases Bool.eq_false_or_eq_true (isBatchB p x1 x2 x3 x4) with h1 | h1
  · obtain ⟨hn1, hn2⟩ := batch_count h1
    rcases Bool.eq_false_or_eq_true (overS s) with h2 | h2
    · exact ⟨⟨#[]⟩, 0, 0, 0, 0, [], 0, 3, fun w => by funext e w'; rw [RetRp, if_pos h1, if_pos h2]; rfl, by simp, fun h => by cases h⟩
    · exact ⟨p, x1, x2, x3, x4, repX x3 (List.replicate x3.toNat 0) (recS s), repN x3 (List.replicate x3.toNat 0) (recS s), 0, fun w => by funext e w'; rw [RetRp, if_pos h1, h2]; rfl, by rw [repX_len, List.length_replicate]; omega, fun _ => ⟨h1, h2, rfl, rfl, rfl, rfl, rfl, rfl, rfl⟩⟩
  · exact ⟨⟨#[]⟩, 0, 0, 0, 0, [], 0, 1, fun w => by funext e w'; rw [RetRp, h1]; rfl, by simp, fun h => by cases h⟩

end Go.Proofs.YtpilkgcghlfdmaaGreatDoor
