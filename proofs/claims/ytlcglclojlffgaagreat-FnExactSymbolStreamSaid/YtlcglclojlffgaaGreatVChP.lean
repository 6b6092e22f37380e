import Derived.Test.YtlcglclojlffgaaGreatM0
import Derived.Conc.LoneCalls
namespace Go.Proofs.YtlcglclojlffgaaGreat
open Go.RowKit Go.Conc

/-! A channel in one goroutine, within the walk: what holds of a piece of code in every frame that is no package's beginning. -/
section
variable {P : Program}

def wpN (P : Program) (c : Code) (Q : Exit → Act → World → Prop) (a : Act) (w : World) : Prop :=
  ∀ (b : Frame), b.kind = .normal → ∀ (k : List Item) (cs : List Frame), ∃ e a' w', Q e a' w' ∧ Arrives P (lone (b.at a (.code c :: k)) cs w) b k cs e a' w'
/-- a region's operations from a list on -/
def OpsTo (P : Program) (ops : Array Oper) (Q : Exit → Act → World → Prop) (l : List Nat) (a : Act) (w : World) : Prop :=
  ∀ (b : Frame), b.kind = .normal → ∀ (k : List Item) (cs : List Frame), ∃ e a' w', Q e a' w' ∧ Arrives P (lone (b.at a (.inRegion ops l :: k)) cs w) b k cs e a' w'

theorem wpN_of_wp {c : Code} {Q : Exit → Act → World → Prop} {a : Act} {w : World} (h : c.wp P Q a w) : wpN P c Q a w := fun b _ k cs => h b k cs
theorem wpN_seq {x y : Code} {Q : Exit → Act → World → Prop} {a : Act} {w : World} (h : wpN P x (Exit.then (wpN P y Q) Q) a w) : wpN P (.seq x y) Q a w := by
  intro b hb k cs
  obtain ⟨e, a1, w1, hq, hr⟩ := h b hb (.code y :: k) cs
  have hs : Steps P (lone (b.at a (.code (.seq x y) :: k)) cs w) (lone (b.at a (.code x :: .code y :: k)) cs w) := .one step_seq
  cases e with
  | normal =>
    obtain ⟨e2, a2, w2, hq2, hr2⟩ := hq b hb k cs
    exact ⟨e2, a2, w2, hq2, .of_steps (hs.trans hr) hr2⟩
  | _ => exact ⟨_, a1, w1, hq, .of_steps hs (.pass (x := .code y) rfl (fun _ _ => .inl (by simp)) hr)⟩
theorem wpN_seq_wp {x y : Code} {Q : Exit → Act → World → Prop} {a : Act} {w : World} (h : x.wp P (Exit.then (wpN P y Q) Q) a w) : wpN P (.seq x y) Q a w := wpN_seq (wpN_of_wp h)
theorem wpN_cond {c : Operand} {x y : Code} {t : Bool} {Q : Exit → Act → World → Prop} {a : Act} {w : World} (hc : a.eval c = .bool t) (h : wpN P (if t then x else y) Q a w) : wpN P (.cond c x y) Q a w :=
  fun b hb k cs => let ⟨e, a', w', q, r⟩ := h b hb k cs; ⟨e, a', w', q, .of_steps (.one (step_cond hc)) r⟩
theorem wpN_block {id : Nat} {c : Code} {Q : Exit → Act → World → Prop} {a : Act} {w : World} (h : wpN P c (Exit.inBlock id Q) a w) : wpN P (.block id c) Q a w := by
  intro b hb k cs
  obtain ⟨e, a1, w1, hq, hr⟩ := h b hb (.inBlock id :: k) cs
  have hs : Steps P (lone (b.at a (.code (.block id c) :: k)) cs w) (lone (b.at a (.code c :: .inBlock id :: k)) cs w) := .one step_block
  cases e with
  | normal => exact ⟨.normal, a1, w1, hq, hs.trans (Steps.trans hr (.one step_inBlock))⟩
  | exit id' =>
    by_cases hid : id' = id
    · simp only [Exit.inBlock, hid, if_true] at hq
      exact ⟨.normal, a1, w1, hq, hs.trans (hr k (by simp [exitTo, hid]))⟩
    · simp only [Exit.inBlock, hid, if_false] at hq
      have h2 : (id == id') = false := by rw [beq_eq_false_iff_ne]; exact fun h => hid h.symm
      exact ⟨.exit id', a1, w1, hq, fun k' hk => hs.trans (hr k' (by simp [exitTo, h2, hk]))⟩
  | goto l => exact ⟨_, a1, w1, hq, fun k' hk => hs.trans (hr k' (by simp [gotoIn, hk]))⟩
  | ret => exact ⟨_, a1, w1, hq, .of_steps hs hr⟩
  | panic ch => exact ⟨_, a1, w1, hq, .of_steps hs hr⟩
  | outgrown => exact ⟨_, a1, w1, hq, .of_steps (b := b) (k := k) (cs := cs) (e := .outgrown) hs hr⟩
/-- a loop whose k-th round comes with k = 0, 1 .. n -/
theorem wpN_loop {c : Code} {Q : Exit → Act → World → Prop} {a : Act} {w : World} (I : Nat → Act → World → Prop) (n : Nat) (h0 : I 0 a w)
    (hr : ∀ k a w, k ≤ n → I k a w → wpN P c (Exit.then (fun a' w' => k + 1 ≤ n ∧ I (k + 1) a' w') Q) a w) : wpN P (.loop c) Q a w := by
  intro b hb k cs
  have key : ∀ d i a w, i + d = n → I i a w → ∃ e a' w', Q e a' w' ∧ Arrives P (lone (b.at a (.code c :: .inLoop c :: k)) cs w) b k cs e a' w' := by
    intro d
    induction d with
    | zero =>
      intro i a w hi hI
      obtain ⟨e, a1, w1, hq, har⟩ := hr i a w (by omega) hI b hb (.inLoop c :: k) cs
      cases e with
      | normal => exact absurd hq.1 (by omega)
      | _ => exact ⟨_, a1, w1, hq, .pass (x := .inLoop c) rfl (fun _ _ => .inl (by simp)) har⟩
    | succ d ih =>
      intro i a w hi hI
      obtain ⟨e, a1, w1, hq, har⟩ := hr i a w (by omega) hI b hb (.inLoop c :: k) cs
      cases e with
      | normal =>
        obtain ⟨e2, a2, w2, hq2, har2⟩ := ih (i + 1) a1 w1 (by omega) hq.2
        exact ⟨e2, a2, w2, hq2, .of_steps (Steps.trans har (.one step_inLoop)) har2⟩
      | _ => exact ⟨_, a1, w1, hq, .pass (x := .inLoop c) rfl (fun _ _ => .inl (by simp)) har⟩
  obtain ⟨e, a', w', hq, har⟩ := key n 0 a w (by omega) h0
  exact ⟨e, a', w', hq, .of_steps (.one step_loop) har⟩
theorem wpN_region {id : Nat} {ops : Array Oper} {Q : Exit → Act → World → Prop} {a : Act} {w : World} (h : OpsTo P ops Q (List.range ops.size) a w) : wpN P (.region id ops false) Q a w :=
  fun b hb k cs => let ⟨e, a', w', q, r⟩ := h b hb k cs; ⟨e, a', w', q, .of_steps (.one step_region) r⟩
theorem wpN_region_l {id : Nat} {ops : Array Oper} {Q : Exit → Act → World → Prop} {a : Act} {w : World} (l : List Nat) (hl : List.range ops.size = l) (h : OpsTo P ops Q l a w) : wpN P (.region id ops false) Q a w := wpN_region (by rw [hl]; exact h)
theorem opsTo_nil {ops : Array Oper} {Q : Exit → Act → World → Prop} {a : Act} {w : World} (h : Q .normal a w) : OpsTo P ops Q [] a w :=
  fun _ _ _ _ => ⟨.normal, a, w, h, .one step_region_end⟩
/-- the operations behind stand for themselves -/
theorem opsTo_ops {ops : Array Oper} {Q : Exit → Act → World → Prop} {l : List Nat} {a : Act} {w : World} (h : wpOps P ops Q l a w) : OpsTo P ops Q l a w := fun b _ k cs => wp_ops l a w h b k cs
theorem opsTo_val {ops : Array Oper} {Q : Exit → Act → World → Prop} {i : Nat} {rest : List Nat} {o : Oper} {a : Act} {v : Value} {w w' : World} (ho : ops[i]? = some o) (hw : Region.wanted o (yielded ops a.tmps) = true) (hr : (execOp a.eval o).run P w = .ok (.value v) w')
    (h : OpsTo P ops Q rest (a.put o.dst v) w') : OpsTo P ops Q (i :: rest) a w := by
  intro b hb k cs
  obtain ⟨e, a', w2, hq, har⟩ := h b hb k cs
  refine ⟨e, a', w2, hq, .of_steps (.one (step_lone_go ?_)) har⟩
  have hfin : (b.at a (.inRegion ops (i :: rest) :: k)).finish v = b.at (a.put o.dst v) (.inRegion ops rest :: k) := by
    rw [Frame.finish_at, ho]; rfl
  rw [stepG_op ho hw, ← hfin]
  simp [stepG.apply, hr]
theorem opsTo_valD (d : Option Tmp) {ops : Array Oper} {Q : Exit → Act → World → Prop} {i : Nat} {rest : List Nat} {o : Oper} {a : Act} {v : Value} {w w' : World} (ho : ops[i]? = some o) (hw : Region.wanted o (yielded ops a.tmps) = true) (hd : o.dst = d) (hr : (execOp a.eval o).run P w = .ok (.value v) w')
    (h : OpsTo P ops Q rest (a.put d v) w') : OpsTo P ops Q (i :: rest) a w := by
  subst hd
  exact opsTo_val ho hw hr h
theorem opsTo_send {ops : Array Oper} {Q : Exit → Act → World → Prop} {i : Nat} {rest : List Nat} {o : Oper} {a : Act} {v z : Value} {w : World} {c cap s r : Nat} {buf : Array Value} {tm : Bool} (ho : ops[i]? = some o) (hw : Region.wanted o (yielded ops a.tmps) = true)
    (hr : (execOp a.eval o).run P w = .ok (.comm #[scase c v z] true .send) w) (hc : w.heap[c]? = some (.chan cap buf false s r tm)) (hroom : buf.size < cap)
    (h : OpsTo P ops Q rest (a.put o.dst undef) (w.setChan c cap (buf.push v) false (s + 1) r tm)) : OpsTo P ops Q (i :: rest) a w := by
  intro b hb k cs
  obtain ⟨e, a', w2, hq, har⟩ := h b hb k cs
  refine ⟨e, a', w2, hq, .of_steps (.one ?_) har⟩
  have hfin : (b.at a (.inRegion ops (i :: rest) :: k)).finish undef = b.at (a.put o.dst undef) (.inRegion ops rest :: k) := by
    rw [Frame.finish_at, ho]; rfl
  rw [← hfin]
  exact step_lone_send_room (stepG_comm ho hw (by rw [hb]; decide) hr) hc hroom
theorem opsTo_recv {ops : Array Oper} {Q : Exit → Act → World → Prop} {i : Nat} {rest : List Nat} {o : Oper} {a : Act} {z : Value} {w : World} {c cap s r : Nat} {buf : Array Value} {closed tm ok : Bool} (ho : ops[i]? = some o) (hw : Region.wanted o (yielded ops a.tmps) = true)
    (hr : (execOp a.eval o).run P w = .ok (.comm #[rcase c z] true (.recv ok)) w) (hc : w.heap[c]? = some (.chan cap buf closed s r tm)) (hsome : 0 < buf.size)
    (h : OpsTo P ops Q rest (a.put o.dst (got ok (buf.getD 0 undef) true)) (w.setChan c cap (buf.extract 1 buf.size) closed s (r + 1) tm)) : OpsTo P ops Q (i :: rest) a w := by
  intro b hb k cs
  obtain ⟨e, a', w2, hq, har⟩ := h b hb k cs
  refine ⟨e, a', w2, hq, .of_steps (.one ?_) har⟩
  have hfin : ∀ v, (b.at a (.inRegion ops (i :: rest) :: k)).finish v = b.at (a.put o.dst v) (.inRegion ops rest :: k) := fun v => by
    rw [Frame.finish_at, ho]; rfl
  rw [← hfin]
  exact step_lone_recv_buf ok (stepG_comm ho hw (by rw [hb]; decide) hr) hc hsome
theorem opsTo_shut {ops : Array Oper} {Q : Exit → Act → World → Prop} {i : Nat} {rest : List Nat} {o : Oper} {a : Act} {z : Value} {w : World} {c cap s r : Nat} {tm ok : Bool} (ho : ops[i]? = some o) (hw : Region.wanted o (yielded ops a.tmps) = true)
    (hr : (execOp a.eval o).run P w = .ok (.comm #[rcase c z] true (.recv ok)) w) (hc : w.heap[c]? = some (.chan cap #[] true s r tm))
    (h : OpsTo P ops Q rest (a.put o.dst (got ok z false)) w) : OpsTo P ops Q (i :: rest) a w := by
  intro b hb k cs
  obtain ⟨e, a', w2, hq, har⟩ := h b hb k cs
  refine ⟨e, a', w2, hq, .of_steps (.one ?_) har⟩
  have hfin : ∀ v, (b.at a (.inRegion ops (i :: rest) :: k)).finish v = b.at (a.put o.dst v) (.inRegion ops rest :: k) := fun v => by
    rw [Frame.finish_at, ho]; rfl
  rw [← hfin]
  exact step_lone_recv_shut ok (stepG_comm ho hw (by rw [hb]; decide) hr) hc
theorem calls_of_wpN {f : FuncId} {fn : Func} {c : Code} {args : Array Value} {w : World} {R : Ending → World → Prop} (hf : P.funcs[f]? = some fn) (hb : fn.body = some c) (hno : ∀ w', ¬ R .outgrown w')
    (h : wpN P c (bodyPost P fn R) { tmps := args ++ Array.replicate (fn.ntmps - args.size) undef, defers := [] } w) : Calls P f args w R := by
  intro cs
  have henter : Frame.enter P f args .normal = ({ (default : Frame) with fn := f, kind := .normal } : Frame).at { tmps := args ++ Array.replicate (fn.ntmps - args.size) undef, defers := [] } [.code c] := by
    simp [Frame.enter, Frame.at, hf, hb]
  obtain ⟨e, a', w', hq, har⟩ := h { (default : Frame) with fn := f, kind := .normal } rfl [] cs
  rw [← henter] at har
  cases e with
  | normal =>
    obtain ⟨hd, v, hr, hR⟩ := hq
    exact ⟨.returned v, w', _, hR, Steps.trans har (.one step_end), rfl, rfl, hd, rfl, fn, hf, hr⟩
  | ret =>
    obtain ⟨hd, v, hr, hR⟩ := hq
    obtain ⟨todo, hs⟩ := har
    exact ⟨.returned v, w', _, hR, hs, rfl, rfl, hd, rfl, fn, hf, hr⟩
  | panic chain =>
    obtain ⟨hd, hR⟩ := hq
    obtain ⟨todo, hs⟩ := har
    exact ⟨.panicked chain, w', _, hR, hs, rfl, rfl, hd, fn, hf⟩
  | exit id => exact hq.elim
  | goto l => exact hq.elim
  | outgrown => exact absurd hq (hno _)
end

end Go.Proofs.YtlcglclojlffgaaGreat
