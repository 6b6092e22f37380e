import Derived.Test.YtpilkgcghlfdmaaGreatDoorVPsr
import Derived.Test.YtpilkgcghlfdmaaGreatDoorM2
import Derived.Test.YtpilkgcghlfdmaaGreatDoorVIsDmg
namespace Go.Proofs.YtpilkgcghlfdmaaGreatDoor
open Go.RowKit

/-- how many numbers a kind has -/
def arK (k : Nat) : Nat := if k = 1 then 4 else if k = 2 then 5 else if k = 3 then 3 else if k = 4 then 3 else if k = 5 then 2 else 100
theorem rnums_len : ∀ (ws : List (List UInt8)) (ns : List Int), rnums ws = some ns → ns.length = ws.length := fun ws ns h => by
  rw [rnums_some ws ns h]; simp
theorem rawD_len {k : Nat} {ns : List Int} {d : Dm} (h : rawD k ns = some d) : ns.length = arK k := by
  unfold rawD at h
  split at h <;> first | rfl | cases h
theorem rd_len {h : List UInt8} {t : List (List UInt8)} (hl : t.length ≠ arK (kindOf h)) : rdOne (h :: t) = none := by
  unfold rdOne
  simp only []
  split
  · rfl
  · rename_i ns hns
    split
    · rfl
    · rename_i d hd
      exact absurd ((rnums_len _ _ hns).symm.trans (rawD_len hd)) hl
theorem rnums_bad {t : List (List UInt8)} {x : List UInt8} (hx : x ∈ t) (hn : rnum x = none) : rnums t = none := by
  induction t with
  | nil => simp at hx
  | cons a t ih =>
    rw [rnums]
    rcases List.mem_cons.1 hx with rfl | hx
    · rw [hn]
    · rw [ih hx]; split <;> rfl
theorem rd_bad {h : List UInt8} {t : List (List UInt8)} {x : List UInt8} (hx : x ∈ t) (hn : rnum x = none) : rdOne (h :: t) = none := by
  unfold rdOne
  simp only [rnums_bad hx hn]
theorem rd_ok {h : List UInt8} {t : List (List UInt8)} {ns : List Int} {d : Dm} (hn : rnums t = some ns) (hr : rawD (kindOf h) ns = some d) : rdOne (h :: t) = if d.ok = true then some d else none := by
  unfold rdOne
  simp only [hn, hr]

/-- what the parser's damage answers -/
def DmgEnd (o : Option Dm) (e : Ending) : Prop :=
  match o with
  | some d => e = .returned (.agg #[.int .i64 d.k, .int .i64 d.r, .int .i64 d.c, .int .i64 d.t, .int .i64 d.w, .int .i64 d.g])
  | none => ∃ v, e = .panicked (stopCh v)
theorem dmgEnd_no {o : Option Dm} {v : Value} (h : o = none) : DmgEnd o (.panicked (stopCh v)) := by rw [h]; exact ⟨v, rfl⟩
theorem dmgEnd_yes {o : Option Dm} {d : Dm} (h : o = some d) : DmgEnd o (.returned (.agg #[.int .i64 d.k, .int .i64 d.r, .int .i64 d.c, .int .i64 d.t, .int .i64 d.w, .int .i64 d.g])) := by rw [h]; rfl

/-- the same words, some of them read -/
theorem shortL_tail {h : ByteArray} {t : List ByteArray} (hs : ShortL (h :: t)) : ShortL t := fun b hb => hs b (by simp [hb])
theorem gb_cell {w w' : World} {q b : Nat} (h : w.grownBy w' (some q)) (hne : b ≠ q) (hb : b < w.heap.size) : w'.heap[b]? = w.heap[b]? := h.block b hb (fun e => hne (Option.some.inj e))

theorem rd_stop {h : ByteArray} {pre ws : List ByteArray} (hz : ws = [] ∨ ∃ h t, ws = h :: t ∧ rnum h.data.toList = none) (hl : pre.length ≠ arK (kindOf h.data.toList)) : rdOne (bytesL (h :: (pre ++ ws))) = none := by
  rcases hz with rfl | ⟨x, y, rfl, hz⟩
  · exact rd_len (by simpa using hl)
  · exact rd_bad (x := x.data.toList) (by simp) hz
/-- a box of the call's own may change -/
theorem gb_own {w w1 w' : World} {q : Nat} (h : w.grownBy w1 (some q)) (hb : Below w.heap.size w1 w') : w.grownBy w' (some q) :=
  ⟨hb.os.trans h.os, hb.tape.trans h.tape, hb.output.trans h.output, Nat.le_trans h.size hb.size, fun k hk hr => (hb.block k hk).trans (h.block k hk hr)⟩

end Go.Proofs.YtpilkgcghlfdmaaGreatDoor
