import Derived.Test.YtlcglclojlffgaaGreatM4
import Derived.Test.YtlcglclojlffgaaGreatM1
import Derived.RangeFuncNested
import Derived.RangeFuncBound
import Derived.RangeFuncCalls
import Derived.RangeFuncLeaves
import Derived.RangeFuncFrom
import Derived.RangeFuncKeeps
import Derived.Shelf.Abstract
import Derived.Shelf.RegionOpen
import Derived.OwnWalkIn
import Derived.TacticsInMore
import Derived.LoopNIn
import Derived.LoopIn
namespace Go.Proofs.YtlcglclojlffgaaGreat
open Go.RowKit Go.Shelf
attribute [local go_sem] Oper.semAt_some

/-- a layout in a box -/
def LayAt (W : World) (b : Nat) (p k g d c n : Int) : Prop := W.heap[b]? = some (.cells #[.int .i64 p, .int .i64 k, .int .i64 g, .int .i64 d, .int .i64 c, .int .i64 n] 40 (0, 0))
/-- a block and an element as values -/
abbrev encP (x : Nat × Nat) : Array Value := #[.int .i64 (x.1 : Int), .int .i64 (x.2 : Int)]
/-- the rounds keep the layout's box -/
def KpL (b : Nat) (W W' : World) : Prop := W'.heap[b]? = W.heap[b]?
theorem below_grown {W W' : World} (hb : Below W.heap.size W W') : W.grownBy W' none := ⟨hb.os, hb.tape, hb.output, hb.size, fun k hk _ => hb.block k hk⟩
theorem ordD_pre {sh : Nat → Nat} {cnt n e m : Nat} (chk : Nat) (he : e < n) (hn : n = sh (cnt - 1)) (hm : m ≤ cnt) : ordD sh cnt e ++ ordR sh e m <+: ordC sh cnt chk := by
  subst hn
  have h1 : ordR sh e m <+: ordR sh e cnt := by
    unfold ordR
    obtain ⟨d, rfl⟩ := Nat.exists_eq_add_of_le hm
    rw [List.range_add, List.filter_append, List.map_append]
    exact List.prefix_append _ _
  have h2 : ordD sh cnt (e + 1) <+: ordD sh cnt (sh (cnt - 1)) := by
    obtain ⟨d, hd⟩ := Nat.exists_eq_add_of_le (show e + 1 ≤ sh (cnt - 1) from he)
    rw [hd]
    unfold ordD
    rw [List.range_add (n := e + 1), List.flatMap_append]
    exact List.prefix_append _ _
  rw [ordD_step] at h2
  exact (List.prefix_append_right_inj _ |>.2 h1).trans (h2.trans (List.prefix_append _ _))
theorem ordE_pre {sh : Nat → Nat} {cnt chk e m : Nat} (he : e < chk) (hm : m ≤ cnt) : ordD sh cnt (sh (cnt - 1)) ++ (ordE sh cnt e ++ ordS sh e m) <+: ordC sh cnt chk := by
  unfold ordC
  refine List.prefix_append_right_inj _ |>.2 ?_
  have h1 : ordS sh e m <+: ordS sh e cnt := by
    unfold ordS
    obtain ⟨d, rfl⟩ := Nat.exists_eq_add_of_le hm
    rw [List.range_add, List.map_append]
    exact List.prefix_append _ _
  have h2 : ordE sh cnt (e + 1) <+: ordE sh cnt chk := by
    obtain ⟨d, hd⟩ := Nat.exists_eq_add_of_le (show e + 1 ≤ chk from he)
    rw [hd]
    unfold ordE
    rw [List.range_add (n := e + 1), List.flatMap_append]
    exact List.prefix_append _ _
  rw [ordE_step] at h2
  exact (List.prefix_append_right_inj _ |>.2 h1).trans h2
theorem pre_lt {α : Type} {a b : List α} {x : α} (h : a ++ [x] <+: b) : a.length < b.length := by
  have := h.length_le
  rw [List.length_append, List.length_singleton] at this
  omega
/-- an iterator over the elements of a list: the loop's body need stand for those alone -/
def SeqMem {α : Type} (F : Fence) (n : Nat) (P : Program) (g : Nat) (lb : Array Value) (encs : α → Array Value) (Kp : World → World → Prop) (all : List α) (w : World) : Prop :=
  ∀ (l : Nat) (J Jx : List α → World → Prop) (W : World), Below w.heap.size w W → AbidesFrom W.heap.size J → AbidesFrom W.heap.size Jx →
    (∀ pre x W1, J pre W1 → x ∈ all → pre.length < all.length → YieldAt F (n - 1) P l (encs x) W1 fun e W' =>
      (e = .returned (.bool true) ∧ J (pre ++ [x]) W' ∧ Kp W1 W') ∨ (e = .returned (.bool false) ∧ Jx (pre ++ [x]) W')) →
    J [] W →
    CallsIn F n P g (#[.func (.yield l) #[] #[]] ++ lb) W fun e W' => (∃ v, e = .returned v) ∧ ((∃ xs, xs = all ∧ J xs W') ∨ (∃ pre, pre <+: all ∧ Jx pre W'))
theorem SeqMem.sub {α : Type} {F : Fence} {n : Nat} {P : Program} {g : Nat} {lb : Array Value} {encs : α → Array Value} {Kp : World → World → Prop} {all : List α} {w : World} (h : SeqMem F n P g lb encs Kp all w) :
    SeqStopsK F n P g lb (fun x : { x : α // x ∈ all } => encs x.1) Kp (fun xs => xs.map (·.1) = all) (fun _ => True) all.length w := fun l J Jx W hW hJ hJx hY h0 => by
  refine (h l (fun xs W => ∃ ys : List { x : α // x ∈ all }, ys.map (·.1) = xs ∧ J ys W) (fun xs W => ∃ ys : List { x : α // x ∈ all }, ys.map (·.1) = xs ∧ Jx ys W) W hW ?_ ?_ ?_ ⟨[], rfl, h0⟩).mono ?_
  · rintro s A B row ⟨ys, e, hs⟩ hg hr
    exact ⟨ys, e, hJ _ _ _ _ hs hg hr⟩
  · rintro s A B row ⟨ys, e, hs⟩ hg hr
    exact ⟨ys, e, hJx _ _ _ _ hs hg hr⟩
  · rintro pre x W1 ⟨ys, rfl, hs⟩ hx hl
    obtain ⟨fn, tmps, assign, body, hy, hR⟩ := hY ys ⟨x, hx⟩ W1 hs (by simpa using hl)
    refine ⟨fn, tmps, assign, body, hy, hR.mono ?_⟩
    rintro e W' (⟨he, hj, hk⟩ | ⟨he, hj⟩)
    · exact .inl ⟨he, ⟨_, by simp, hj⟩, hk⟩
    · exact .inr ⟨he, _, by simp, hj⟩
  · rintro e W' ⟨hv, (⟨xs, rfl, ys, e, hj⟩ | ⟨pre, _, ys, e, hj⟩)⟩
    · exact ⟨hv, .inl ⟨ys, e, hj⟩⟩
    · exact ⟨hv, .inr ⟨ys, trivial, hj⟩⟩
set_option maxRecDepth 100000 in
set_option maxHeartbeats 4000000 in
theorem order_mem (m : Nat) (lb : Nat) (p k g : Int) (d c n : Nat) (hd : d ≤ 1500) (hc : c ≤ 64) (hn : 1 ≤ n) (hn2 : n ≤ 16) (w : World) (hL : LayAt w lb p k g d c n) :
    SeqMem Fence.wide m Tryz.prog 84 #[.pointer (some ⟨lb, 0, none⟩)] encP (KpL lb) (ordC (shN d n) n c) w := fun l J Jx W hW hJ hJx hY h0 => by
  have HL := Lib.hid (show LayAt W lb p k g d c n from blkK hW hL)
  have HJ := Lib.hid (fun s W1 W2 (h : J s W1) (hb : Below W1.heap.size W1 W2) => hJ s W1 W2 none h (below_grown hb) (fun r e => by cases e))
  have HSH : Hid (∀ (b : Nat) (w' : World), Calls Tryz.prog 42 #[.agg #[.int .i64 p, .int .i64 k, .int .i64 g, .int .i64 (d : Int), .int .i64 (c : Int), .int .i64 (n : Int)], .int .i64 (b : Int)] w' fun e w'' => e = .returned (.int .i64 (shN d n b : Nat)) ∧ Below w'.heap.size w' w'') := Lib.hid (fun b w' => by
    have h := share_any p k g (d : Int) (c : Int) (n : Int) (b : Int) w' (by omega) (by omega) (by omega) (by omega)
    rwa [share_nat d c n b hn] at h)
  have HSB := Lib.hid (fun b (hb : b < n) => shN_mono d n (show b ≤ n - 1 by omega))
  have HSL := Lib.hid (shN_le d n (n - 1) hn (by omega))
  obtain ⟨sh, hsh⟩ : ∃ sh, sh = shN d n := ⟨_, rfl⟩
  rw [← hsh] at hY HSH HSB HSL ⊢
  clear hsh
  clear hL hJ hJx
  refine callsIn_of_wp Tryz.func84 rfl trivial ?_ rfl
  simp only [Tryz.ntmps84, List.size_toArray, List.length_cons, List.length_nil, Nat.reduceAdd, Nat.reduceSub, Array.replicate_succ, Array.replicate_zero, List.push_toArray, List.append_toArray, List.nil_append, List.cons_append]
  obtain ⟨hcA, hfA⟩ := heap_cellR HL.out
  have hlt := blkLt HL.out
  gi_wp2
  refine ⟨trivial, fun h => (by cases h), ?_⟩
  have hS0 := HSH.out (n - 1) W
  rw [show (((n - 1 : Nat) : Nat) : Int) = (n : Int) - 1 by omega] at hS0
  refine (callsIn_wide.2 hS0).mono ?_
  rintro e w2 ⟨rfl, hb2⟩
  have HJ2 := Lib.hid (HJ.out _ _ _ h0 hb2)
  have HL2 := Lib.hid (show LayAt w2 lb p k g d c n from blkK hb2 HL.out)
  have hLs := HSL.out
  obtain ⟨Ln, hLn⟩ : ∃ Ln, Ln = sh (n - 1) := ⟨_, rfl⟩
  rw [← hLn] at hLs ⊢
  have HLn := Lib.hid hLn
  clear hb2 h0 hcA hfA hS0 hLn
  gi_wp2
  gi_loopw [4, 5] (fun i _ wr => ∃ e : Nat, e ≤ Ln ∧ i = .int .i64 e ∧ J (ordD sh n e) wr ∧ LayAt wr lb p k g d c n) (fun i _ _ => Ln - (intOf i).toNat)
  case atStart => exact ⟨0, Nat.zero_le _, rfl, HJ2.out, HL2.out⟩
  case round =>
    obtain ⟨e, he, rfl, hj, hl⟩ := hrel
    have HJe := Lib.hid hj
    have HLe := Lib.hid hl
    obtain ⟨hcA, hfA⟩ := heap_cellR HLe.out
    have hltA := blkLt HLe.out
    clear hj hl
    obtain ⟨ws, hws⟩ : ∃ ws : World, ws = wr := ⟨_, rfl⟩
    subst hws
    by_cases hel : e < Ln
    · have hei : (e : Int) < (Ln : Int) := by omega
      gi_wp2
      gi_loopw [5] (fun j wq => ∃ b : Nat, b ≤ n ∧ j = .int .i64 b ∧ J (ordD sh n e ++ ordR sh e b) wq ∧ LayAt wq lb p k g d c n) (fun j _ => n - (intOf j).toNat)
      case atStart => exact ⟨0, Nat.zero_le _, rfl, by simpa [ordR] using HJe.out, HLe.out⟩
      case round =>
        clear hcA hfA hltA
        obtain ⟨b, hb, rfl, hj, hl⟩ := hrel
        have HJb := Lib.hid hj
        have HLb := Lib.hid hl
        obtain ⟨hcA, hfA⟩ := heap_cellR HLb.out
        have hltA := blkLt HLb.out
        clear hj hl
        by_cases hbn : b < n
        · have hbi : (b : Int) < (n : Int) := by omega
          gi_wp2
          refine ⟨trivial, fun h => (by cases h), ?_⟩
          refine (callsIn_wide.2 (HSH.out b wr)).mono ?_
          rintro e' w3 ⟨rfl, hb3⟩
          have HJ3 := Lib.hid (HJ.out _ _ _ HJb.out hb3)
          have HL3 := Lib.hid (show LayAt w3 lb p k g d c n from blkK hb3 HLb.out)
          have hsb := HSB.out b hbn
          obtain ⟨Lb, hLb⟩ : ∃ Lb, Lb = sh b := ⟨_, rfl⟩
          rw [← hLb, ← HLn.out] at hsb
          rw [← hLb]
          clear hb3 hcA hfA hltA HJb HLb HJe HLe
          by_cases hes : e < Lb
          · have hei2 : (e : Int) < (Lb : Int) := by omega
            have hpre : ordD sh n e ++ ordR sh e b ++ [(b, e)] <+: ordC sh n c := by
              rw [List.append_assoc, ← ordR_yes (by rw [← hLb]; exact hes)]
              exact ordD_pre c hel HLn.out hbn
            obtain ⟨fn, tmps, assign, body, hy, hR⟩ := hY _ (b, e) w3 HJ3.out (hpre.subset (List.mem_append.2 (.inr (List.mem_singleton.2 rfl)))) (pre_lt hpre)
            gi_wp2
            refine ⟨fun h => (by cases h), ?_⟩
            refine hR.mono ?_
            rintro en W' (⟨rfl, hJ', hk⟩ | ⟨rfl, hJx'⟩)
            · have HJ4 := Lib.hid hJ'
              have HL4 := Lib.hid (show LayAt W' lb p k g d c n from by rw [LayAt, hk]; exact HL3.out)
              clear hJ' hk hy hR hpre HJ3 HL3
              gi_wp2
              case' roundEnd =>
                refine ⟨⟨b + 1, by omega, by push_cast; rfl, ?_, HL4.out⟩, ?_⟩
                · rw [ordR_yes (by rw [← hLb]; exact hes), ← List.append_assoc]; exact HJ4.out
                · show n - (((b : Int) + 1)).toNat < n - ((b : Int)).toNat
                  omega
            · have HX := Lib.hid hJx'
              have HP := Lib.hid hpre
              gi_wp2
              refine bodyPost_ret (results_none rfl _ _ _) rfl ?_
              exact ⟨⟨_, rfl⟩, .inr ⟨_, HP.out, HX.out⟩⟩
          · gi_wp2
            refine ⟨fun _ h => (by cases h), ?_⟩
            gi_wp2
            case' roundEnd =>
              refine ⟨⟨b + 1, by omega, by push_cast; rfl, ?_, HL3.out⟩, ?_⟩
              · rw [ordR_no (by rw [← hLb]; exact hes)]; exact HJ3.out
              · show n - (((b : Int) + 1)).toNat < n - ((b : Int)).toNat
                omega
        · have hbi : ¬ (b : Int) < (n : Int) := by omega
          obtain rfl : b = n := by omega
          gi_wp2
          case' roundEnd =>
            refine ⟨⟨e + 1, by omega, by push_cast; rfl, ?_, HLb.out⟩, ?_⟩
            · rw [ordD_step]; exact HJb.out
            · show Ln - (((e : Int) + 1)).toNat < Ln - ((e : Int)).toNat
              omega
    · have hei : ¬ (e : Int) < (Ln : Int) := by omega
      obtain rfl : e = Ln := by omega
      have HJe2 := HJe
      rw [HLn.out] at HJe2
      gi_wp2
      gi_loopw [6, 7] (fun i _ wr => ∃ f : Nat, f ≤ c ∧ i = .int .i64 f ∧ J (ordD sh n (sh (n - 1)) ++ ordE sh n f) wr ∧ LayAt wr lb p k g d c n) (fun i _ _ => c - (intOf i).toNat)
      case atStart => exact ⟨0, Nat.zero_le _, rfl, by simpa [ordE] using HJe2.out, HLe.out⟩
      case round =>
        clear hcA hfA hltA
        obtain ⟨f, hf, rfl, hj, hl⟩ := hrel
        have HJf := Lib.hid hj
        have HLf := Lib.hid hl
        obtain ⟨hcA, hfA⟩ := heap_cellR HLf.out
        have hltA := blkLt HLf.out
        clear hj hl
        obtain ⟨wt, hwt⟩ : ∃ wt : World, wt = wr := ⟨_, rfl⟩
        subst hwt
        by_cases hfc : f < c
        · have hfi : (f : Int) < (c : Int) := by omega
          gi_wp2
          gi_loopw [7] (fun j wq => ∃ b : Nat, b ≤ n ∧ j = .int .i64 b ∧ J (ordD sh n (sh (n - 1)) ++ (ordE sh n f ++ ordS sh f b)) wq ∧ LayAt wq lb p k g d c n) (fun j _ => n - (intOf j).toNat)
          case atStart => exact ⟨0, Nat.zero_le _, rfl, by simpa [ordS] using HJf.out, HLf.out⟩
          case round =>
            clear hcA hfA hltA
            obtain ⟨b, hb, rfl, hj, hl⟩ := hrel
            have HJb := Lib.hid hj
            have HLb := Lib.hid hl
            obtain ⟨hcA, hfA⟩ := heap_cellR HLb.out
            have hltA := blkLt HLb.out
            clear hj hl
            by_cases hbn : b < n
            · have hbi : (b : Int) < (n : Int) := by omega
              gi_wp2
              refine ⟨trivial, fun h => (by cases h), ?_⟩
              refine (callsIn_wide.2 (HSH.out b wr)).mono ?_
              rintro e' w3 ⟨rfl, hb3⟩
              have HJ3 := Lib.hid (HJ.out _ _ _ HJb.out hb3)
              have HL3 := Lib.hid (show LayAt w3 lb p k g d c n from blkK hb3 HLb.out)
              have hsb := HSB.out b hbn
              rw [← HLn.out] at hsb
              have hpre : ordD sh n (sh (n - 1)) ++ (ordE sh n f ++ ordS sh f b) ++ [(b, sh b + f)] <+: ordC sh n c := by
                rw [List.append_assoc, List.append_assoc, ← ordS_step]
                exact ordE_pre hfc hbn
              clear hb3 hcA hfA hltA HJb HLb HJe HLe
              obtain ⟨fn, tmps, assign, body, hy, hR⟩ := hY _ (b, sh b + f) w3 HJ3.out (hpre.subset (List.mem_append.2 (.inr (List.mem_singleton.2 rfl)))) (pre_lt hpre)
              rw [show (encP (b, sh b + f)) = #[.int .i64 (b : Int), .int .i64 (((sh b : Nat) : Int) + (f : Int))] from by simp [encP]] at hy
              gi_wp2
              refine ⟨fun h => (by cases h), ?_⟩
              refine hR.mono ?_
              rintro en W' (⟨rfl, hJ', hk⟩ | ⟨rfl, hJx'⟩)
              · have HJ4 := Lib.hid hJ'
                have HL4 := Lib.hid (show LayAt W' lb p k g d c n from by rw [LayAt, hk]; exact HL3.out)
                clear hJ' hk hy hR hpre HJ3 HL3
                gi_wp2
                case' roundEnd =>
                  refine ⟨⟨b + 1, by omega, by push_cast; rfl, ?_, HL4.out⟩, ?_⟩
                  · rw [ordS_step, ← List.append_assoc, ← List.append_assoc]; rw [← List.append_assoc] at HJ4; exact HJ4.out
                  · show n - (((b : Int) + 1)).toNat < n - ((b : Int)).toNat
                    omega
              · have HX := Lib.hid hJx'
                have HP := Lib.hid hpre
                gi_wp2
                refine bodyPost_ret (results_none rfl _ _ _) rfl ?_
                exact ⟨⟨_, rfl⟩, .inr ⟨_, HP.out, HX.out⟩⟩
            · have hbi : ¬ (b : Int) < (n : Int) := by omega
              obtain rfl : b = n := by omega
              gi_wp2
              case' roundEnd =>
                refine ⟨⟨f + 1, by omega, by push_cast; rfl, ?_, HLb.out⟩, ?_⟩
                · rw [ordE_step]; exact HJb.out
                · show c - (((f : Int) + 1)).toNat < c - ((f : Int)).toNat
                  omega
        · have hfi : ¬ (f : Int) < (c : Int) := by omega
          obtain rfl : f = c := by omega
          gi_wp2
          go_end0
          exact ⟨⟨_, rfl⟩, .inl HJf.out⟩

end Go.Proofs.YtlcglclojlffgaaGreat
