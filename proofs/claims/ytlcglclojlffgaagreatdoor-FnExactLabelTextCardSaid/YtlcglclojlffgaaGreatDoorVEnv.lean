import Derived.Test.YtlcglclojlffgaaGreatDoorVDec
import Derived.Lib.ParseIntBTie
namespace Go.Proofs.YtlcglclojlffgaaGreatDoor
open Go.RowKit

/-- what the library's variables hold -/
structure Env (w : World) : Prop where
  tab : Tab w
  syn : ∃ tp p, w.var? Tryz.prog "strconv.ErrSyntax" = some #[.iface tp p]
  rng : ∃ tp p, w.var? Tryz.prog "strconv.ErrRange" = some #[.iface tp p]
  mx : ∃ m, w.cell? ⟨0, 0, none⟩ = some (.int .i64 m)

theorem gSyn : Tryz.prog.globalNamed "strconv.ErrSyntax" = some 1 := by kernel_rfl
theorem gRng : Tryz.prog.globalNamed "strconv.ErrRange" = some 2 := by kernel_rfl
theorem var_lt {w : World} {n : String} {g : Nat} {v : Value} (hg : Tryz.prog.globalNamed n = some g) (h : w.var? Tryz.prog n = some #[v]) : g < w.heap.size :=
  lt_of_cell (v := v) (by have := World.var?_cell hg h 0; simpa using this)
theorem Env.next {w w' : World} (h : Env w) (hb : Below w.heap.size w w') : Env w' := by
  obtain ⟨t, ⟨a, b, hs⟩, ⟨c, d, hr⟩, ⟨m, hm⟩⟩ := h
  exact ⟨t.next hb, ⟨a, b, var?_below hb gSyn (var_lt gSyn hs) hs⟩, ⟨c, d, var?_below hb gRng (var_lt gRng hr) hr⟩, ⟨m, by rw [hb.cell (p := ⟨_, 0, none⟩) (lt_of_cell hm)]; exact hm⟩⟩
theorem Env.alloc {w : World} (h : Env w) (o : Obj) : Env (w.alloc o) := h.next (ba1 w o)

theorem below_bytes {w w' : World} (h : w' = w ∨ ∃ t, w' = Lib.bytesWorld w 5 t) : Below w.heap.size w w' := by
  rcases h with rfl | ⟨t, rfl⟩
  · exact Below.refl _ _
  · exact Lib.bytesWorld_below _ _ _

/-- what ParseInt gives: the number, and whether it read one -/
theorem parse_any (s : ByteArray) (w : World) (hs : s.size ≤ 281474976710656) (hE : Env w) :
    Calls Tryz.prog 53 #[.string s, .int .i64 10, .int .i64 64] w fun e w' =>
      ((∃ n, Lib.parseIntB 64 s.data.toList = .ok n ∧ e = .returned (.tuple #[.int .i64 n, .nilIface])) ∨
       ((∀ n, Lib.parseIntB 64 s.data.toList ≠ .ok n) ∧ ∃ v t p, e = .returned (.tuple #[.int .i64 v, .iface t p]))) ∧ Below w.heap.size w w' := by
  obtain ⟨_, ⟨a, b, hsy⟩, ⟨c, d, hrg⟩, _⟩ := hE
  cases hp : Lib.parseIntB 64 s.data.toList with
  | ok n => exact (Tryz.strconv_ParseInt_10_at64_ok s (by omega) n hp w).mono fun e w' ⟨he, hw⟩ => ⟨.inl ⟨n, rfl, he⟩, below_bytes hw⟩
  | «syntax» => exact (Tryz.strconv_ParseInt_10_at64_syntax_var s hs hp a b w hsy).mono fun e w' ⟨N, he, _, _, hb⟩ => ⟨.inr ⟨fun n h => (by cases h), _, _, _, he⟩, hb⟩
  | range => exact (Tryz.strconv_ParseInt_10_at64_range_var s hs hp c d w hrg).mono fun e w' ⟨N, he, _, _, hb⟩ => ⟨.inr ⟨fun n h => (by cases h), _, _, _, he⟩, hb⟩

end Go.Proofs.YtlcglclojlffgaaGreatDoor
