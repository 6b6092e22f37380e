import Derived.Test.YtpilkgcghlfdmaaGreatDoorVDmA
import Derived.Test.YtpilkgcghlfdmaaGreatDoorVRasL
namespace Go.Proofs.YtpilkgcghlfdmaaGreatDoor
open Go.RowKit

theorem infoDm : (Tryz.prog.info? 30).map (fun i => (i.zero, i.size, i.bytes)) = some (some (.agg #[.int .i64 0, .int .i64 0, .int .i64 0, .int .i64 0, .int .i64 0, .int .i64 0]), 6, 48) := by kernel_rfl

/-- the first k damages lie in the cells cs -/
def DmCs (cs : Array Value) (ds : List Dm) (k : Nat) : Prop := ∀ i d, i < k → ds[i]? = some d → cs[i * 6]? = some (.int .i64 d.k) ∧ cs[i * 6 + 1]? = some (.int .i64 d.r) ∧ cs[i * 6 + 2]? = some (.int .i64 d.c) ∧ cs[i * 6 + 3]? = some (.int .i64 d.t) ∧ cs[i * 6 + 4]? = some (.int .i64 d.w) ∧ cs[i * 6 + 5]? = some (.int .i64 d.g)
def set6 (cs : Array Value) (o : Nat) (v0 v1 v2 v3 v4 v5 : Value) : Array Value := (((((cs.setIfInBounds o v0).setIfInBounds (o + 1) v1).setIfInBounds (o + 2) v2).setIfInBounds (o + 3) v3).setIfInBounds (o + 4) v4).setIfInBounds (o + 5) v5
theorem set6_size (cs : Array Value) (o : Nat) (v0 v1 v2 v3 v4 v5 : Value) : (set6 cs o v0 v1 v2 v3 v4 v5).size = cs.size := by simp [set6]
theorem dmCs_step {cs : Array Value} {ds : List Dm} {k : Nat} {d : Dm} (hs : cs.size = ds.length * 6) (h : DmCs cs ds k) (hd : ds[k]? = some d) :
    DmCs (set6 cs (k * 6) (.int .i64 d.k) (.int .i64 d.r) (.int .i64 d.c) (.int .i64 d.t) (.int .i64 d.w) (.int .i64 d.g)) ds (k + 1) := by
  intro i e hi he
  have hk : k < ds.length := (List.getElem?_eq_some_iff.1 hd).1
  have hk6 : k * 6 + 5 < cs.size := by omega
  by_cases hik : i = k
  · subst hik
    obtain rfl : d = e := Option.some.inj (hd.symm.trans he)
    unfold set6
    simp only [Array.getElem?_setIfInBounds, Array.size_setIfInBounds]
    refine ⟨?_, ?_, ?_, ?_, ?_, ?_⟩
    all_goals (repeat (first | rw [if_pos trivial] | rw [if_neg (by omega)] | rw [if_pos (by omega)]))
  · have := h i e (by omega) he
    unfold set6
    simp only [Array.getElem?_setIfInBounds]
    refine ⟨?_, ?_, ?_, ?_, ?_, ?_⟩
    all_goals (repeat (rw [if_neg (by omega)]))
    · exact this.1
    · exact this.2.1
    · exact this.2.2.1
    · exact this.2.2.2.1
    · exact this.2.2.2.2.1
    · exact this.2.2.2.2.2
theorem dms_box {w : World} {b : Nat} {cs : Array Value} {t : TypeId} {ds : List Dm} (hb : w.heap[b]? = some (.cells cs t (0, 0))) (h : DmCs cs ds ds.length) : DmsAt w (some ⟨b, 0, none⟩) ds := by
  intro i hi
  obtain ⟨h0, h1, h2, h3, h4, h5⟩ := h i ds[i] hi (List.getElem?_eq_getElem hi)
  have hc := (heap_cellR hb).1
  rw [← hc] at h0 h1 h2 h3 h4 h5
  refine ⟨b, 0, rfl, ?_⟩
  rw [Nat.zero_add]
  exact ⟨h0, h1, h2, h3, h4, h5⟩

end Go.Proofs.YtpilkgcghlfdmaaGreatDoor
