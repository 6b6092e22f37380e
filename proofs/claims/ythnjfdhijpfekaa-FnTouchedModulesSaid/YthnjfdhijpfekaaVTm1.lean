import Derived.Test.YthnjfdhijpfekaaVTmL
namespace Go.Proofs.Ythnjfdhijpfekaa
open Go.RowKit

/-- the test of a blot or a scratch, as a closure -/
def tfn (d : Dm) : Value := .func (.func (if d.k = 1 then 78 else 79)) #[.agg #[.int .i64 d.k, .int .i64 d.r, .int .i64 d.c, .int .i64 d.t, .int .i64 d.w, .int .i64 d.g]] #[]
theorem touching_yes {k r c t v g : Int} {W : World} (h : Dm.loc ⟨k, r, c, t, v, g⟩ = true) :
    Calls Try.prog 47 #[.agg #[.int .i64 k, .int .i64 r, .int .i64 c, .int .i64 t, .int .i64 v, .int .i64 g]] W fun e W' => e = .returned (.tuple #[tfn ⟨k, r, c, t, v, g⟩, .bool true]) ∧ Below W.heap.size W W' := by
  obtain ⟨h1, h2⟩ := loc_ok h
  dsimp only at h2
  rcases h2 with rfl | rfl
  · exact touching1 h1
  · exact touching2 h1
set_option maxRecDepth 100000 in
set_option maxHeartbeats 1000000 in
theorem touching_no {k r c t v g : Int} {W : World} (h : Dm.loc ⟨k, r, c, t, v, g⟩ = false) :
    Calls Try.prog 47 #[.agg #[.int .i64 k, .int .i64 r, .int .i64 c, .int .i64 t, .int .i64 v, .int .i64 g]] W fun e W' => e = .returned (.tuple #[.nilFunc, .bool false]) ∧ Below W.heap.size W W' := by
  have hmf := run_makeFunc'' Try.prog
  rcases Bool.eq_false_or_eq_true (dmOk k r c t v g) with hd | hd
  · have hk : ¬ (k = 1 ∨ k = 2) := fun hk => by
      rcases hk with rfl | rfl <;> simp [Dm.loc, Dm.ok, hd] at h
    have hk1 : (k == 1) = false := by simp; omega
    have hk2 : (k == 2) = false := by simp; omega
    have HD := Lib.hid hd
    clear hd h
    go_enter Try.func47, Try.ntmps47
    go_wp2_with fail
    refine (isDamage_val HD.out).mono ?_
    rintro e w1 ⟨rfl, hb⟩
    have hA := box1 hb
    have HB := Lib.hid (bt1 hb)
    have hs := hb.size
    rw [World.size_alloc] at hs
    clear hb
    go_wp2_with fail
    go_ret2
    exact ⟨rfl, HB.out⟩
  · have HD := Lib.hid hd
    clear hd h
    go_enter Try.func47, Try.ntmps47
    go_wp2_with fail
    refine (isDamage_val HD.out).mono ?_
    rintro e w1 ⟨rfl, hb⟩
    have HB := Lib.hid (bt1 hb)
    clear hb
    go_wp2_with fail
    go_ret2
    exact ⟨rfl, HB.out⟩
set_option maxRecDepth 100000 in
set_option maxHeartbeats 1000000 in
theorem l27Local_val {k r c t v g : Int} {b : Bool} {W : World} (h : Dm.loc ⟨k, r, c, t, v, g⟩ = b) :
    Calls Try.prog 62 #[.agg #[.int .i64 k, .int .i64 r, .int .i64 c, .int .i64 t, .int .i64 v, .int .i64 g]] W fun e W' => e = .returned (.bool b) ∧ Below W.heap.size W W' := by
  subst h
  rcases Bool.eq_false_or_eq_true (dmOk k r c t v g) with hd | hd
  · have HE : Hid (Dm.loc ⟨k, r, c, t, v, g⟩ = ((k == 1) || (k == 2))) := Lib.hid (by simp [Dm.loc, Dm.ok, hd])
    rw [HE.out]
    have HD := Lib.hid hd
    clear hd
    go_enter Try.func62, Try.ntmps62
    go_wp2_with fail
    refine (specIsDamage_val HD.out).mono ?_
    rintro e w1 ⟨rfl, hb⟩
    have hA := box1 hb
    have HB := Lib.hid (bt1 hb)
    have hs := hb.size
    rw [World.size_alloc] at hs
    clear hb
    go_wp2_with fail
    all_goals go_ret
    all_goals exact ⟨ret_bool (by simp_all), HB.out⟩
  · have HE : Hid (Dm.loc ⟨k, r, c, t, v, g⟩ = false) := Lib.hid (by simp [Dm.loc, Dm.ok, hd])
    rw [HE.out]
    have HD := Lib.hid hd
    clear hd
    go_enter Try.func62, Try.ntmps62
    go_wp2_with fail
    refine (specIsDamage_val HD.out).mono ?_
    rintro e w1 ⟨rfl, hb⟩
    have HB := Lib.hid (bt1 hb)
    clear hb
    go_wp2_with fail
    go_ret
    exact ⟨rfl, HB.out⟩

theorem infoFn : (Try.prog.info? 80).map (fun i => (i.zero, i.size, i.bytes)) = some (some .nilFunc, 1, 8) := by kernel_rfl
/-- the slice v is the call's own and holds the values fs -/
def OwnV (w : World) (base : Nat) (v : Value) (fs : List Value) : Prop := w.ownsRow base 80 1 v fs.length fs
theorem OwnV.read {w : World} {base : Nat} {v : Value} {fs : List Value} (h : OwnV w base v fs) : ∃ a c, v = .slice a fs.length c ∧ ∀ i u, fs[i]? = some u → ∃ b, a = some ⟨b, 0, none⟩ ∧ b < w.heap.size ∧ w.cell? ⟨b, i, none⟩ = some u := by
  have h' := h
  rcases h.2 with ⟨rfl, h0⟩ | ⟨g, cap, cur, rfl, hb, hg, _⟩
  · refine ⟨none, 0, by rw [h0], fun i u hu => ?_⟩
    have := (List.getElem?_eq_some_iff.1 hu).1
    omega
  · refine ⟨_, _, rfl, fun i u hu => ⟨g, rfl, (Array.getElem?_eq_some_iff.1 hg).1, ?_⟩⟩
    have hi := (List.getElem?_eq_some_iff.1 hu).1
    rw [World.ownsRow.cellAt h' i (by omega)]
    exact hu
theorem OwnV.at {w : World} {base : Nat} {v : Value} {fs : List Value} (h : OwnV w base v fs) : ∀ g, v.ownBlock = some g → base ≤ g := by
  rcases h.2 with ⟨rfl, _⟩ | ⟨g, cap, cur, rfl, hg, _⟩
  · simp [Value.ownBlock]
  · intro k e; simp [Value.ownBlock] at e; omega
theorem OwnV.grown {w w' : World} {base : Nat} {v : Value} {fs : List Value} (h : OwnV w base v fs) (hb : Below w.heap.size w w') : OwnV w' base v fs :=
  World.ownsRow.kept (row := none) h ⟨hb.os, hb.tape, hb.output, hb.size, fun k hk _ => hb.block k hk⟩ (by cases hv : v.ownBlock <;> simp)
theorem OwnV.new (w : World) : OwnV (w.alloc (.cells #[] 80 (0, 0))) w.heap.size (.slice (some ⟨w.heap.size, 0, none⟩) 0 0) [] :=
  World.ownsRow_lit (base := w.heap.size) (size := 1) w #[] 0 (Nat.le_refl _) (by unfold maxLen; omega) rfl
theorem tfn_one (d : Dm) : ∀ u ∈ [tfn d], u.oneCell' = true := by
  intro u hu
  rw [List.mem_singleton] at hu
  subst hu
  rfl

end Go.Proofs.Ythnjfdhijpfekaa
