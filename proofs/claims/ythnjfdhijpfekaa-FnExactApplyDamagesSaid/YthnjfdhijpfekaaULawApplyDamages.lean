/- The program's ApplyDamages answers as the reference's does, for every raster and list of damages, in memory of its own, and the law's arguments read behind the call as they did. No condition. -/
import Derived.Test.YthnjfdhijpfekaaULawP
import Derived.Test.YthnjfdhijpfekaaUOpenRas
import Derived.Test.YthnjfdhijpfekaaUOpenDs
import Derived.Test.YthnjfdhijpfekaaUExApplyDamages
namespace Go.Proofs.Ythnjfdhijpfekaa.lawExactApplyDamages
open Go.ChangeShapes Go.WideShapes Go.ChangeAt Go.RowKit

set_option maxRecDepth 100000 in
/-- WHAT THE WALKS GIVE, FOR EVERY ARGUMENT AND EVERY WORLD THAT HOLDS THE TABLES. -/
theorem contract (H : Type) (enc : TypeId × Value → H) (W : World) (base : Nat) (args : Array Value) (ds gs : List (DataW H)) (before : List MemPlace)
    (hval : ∀ (j : Nat) t v, Try.f6.params[j]? = some t → args[j]? = some v → Value.okWide Try.prog W .any base t v)
    (hW : DataW.Whole enc Try.prog Try.f6.params.toList Rows.fnExactApplyDamagesSpec.vars false W args.toList ds gs before) (_hL : laidMetH Try.prog Rows.fnExactApplyDamagesRow.laid W) :
    Calls Try.prog 6 args W fun e W' => ∃ v, e = .returned v ∧ Rows.fnExactApplyDamagesSpec.post enc Try.prog Try.f6 false true false false W args v W' := by
  have hW' := hW
  obtain ⟨p, q, hA0, hV, rfl, hfz, hnd⟩ := hW
  have hA : DataW.TrodAll enc Try.prog W 0 (fun _ => true) true Try.f6.params.toList args.toList ds p := hA0
  have hp := Try.params6
  rw [hp] at hA hval
  obtain ⟨v0, vs0, d0, ds0, p0, q0, hargs, rfl, rfl, h0, r0⟩ := trodAll_cons hA
  obtain ⟨v1, vs1, d1, ds1, p1, q1, rfl, rfl, rfl, h1, r1⟩ := trodAll_cons r0
  obtain ⟨rfl, rfl, rfl⟩ := trodAll_nil r1
  obtain rfl : args = #[v0, v1] := by cases args; simp_all
  obtain ⟨r01, r02, a0, xs0, c0, rfl, w01, w02, hx0, lx0, wx0⟩ := open_raster (hval 0 _ v0 rfl rfl) h0
  obtain ⟨a1, ds1, c1, rfl, hx1, ld1⟩ := open_damages (hval 1 _ v1 rfl rfl) h1
  refine (exApplyDamages_any r01 r02 a0 xs0 c0 a1 ds1 c1 W hx0 lx0 hx1 ld1).mono fun e W' ⟨he, hb⟩ => ⟨_, he, ?_⟩
  exact law_post hW' rfl rfl hb (fun gs hg => by subst hg; rfl) (by rw [hp]; intro t ht; simp only [List.mem_cons, List.not_mem_nil, or_false] at ht; rcases ht with rfl | rfl <;> exact ⟨by kernel_rfl, of_decide_eq_true (by kernel_rfl)⟩)

theorem reads (os : Os) {H : Type} (enc : TypeId × Value → H) : ∃ ds places, DataW.whole enc Try.prog ((laidWorld Rows.fnExactApplyDamagesRow.laid os).forCall (fun _ _ => 0) ⟨#[], #[.agg #[.int .i64 0, .int .i64 0, .slice none 0 0], .slice none 0 0], []⟩).memory Try.f6.params.toList Rows.fnExactApplyDamagesSpec.vars false (#[Value.agg #[.int .i64 0, .int .i64 0, .slice none 0 0], .slice none 0 0]).toList 8 = some (ds, [], places) :=
  ⟨[.agg [.lit (.int .i64 0), .lit (.int .i64 0), .nil], .nil], [], by kernel_rfl⟩
theorem laid_met (os : Os) : laidMet Try.prog Rows.fnExactApplyDamagesRow.laid ((laidWorld Rows.fnExactApplyDamagesRow.laid os).forCall (fun _ _ => 0) ⟨#[], #[.agg #[.int .i64 0, .int .i64 0, .slice none 0 0], .slice none 0 0], []⟩).memory :=
  laidMet_of_run' 8 (by kernel_rfl) (by kernel_rfl)

set_option maxRecDepth 100000 in
theorem lifted (os : Os) (started : os.Started) (H : Type) (enc : TypeId × Value → H) (F : Stop.Interp) :
    ReturnsInHanded {} Try.checked os 6 .any ((OpenSpec.ofChange Rows.fnExactApplyDamagesSpec).preRow enc Try.prog Try.f6 Rows.fnExactApplyDamagesRow.domain false Rows.fnExactApplyDamagesRow.laid) (((OpenSpec.ofChange Rows.fnExactApplyDamagesSpec).at F).post enc Try.prog Try.f6 false true false false) := by
  obtain ⟨ds, places, hx⟩ := reads os enc
  refine returnsInHanded_of_row (C := Try.checked) (s := OpenSpec.ofChange Rows.fnExactApplyDamagesSpec) ownLaw started (by kernel_rfl) Try.func6
    (witness_row_at (enc := enc) (C := Try.checked) false (laidWorld Rows.fnExactApplyDamagesRow.laid os) #[.agg #[.int .i64 0, .int .i64 0, .slice none 0 0], .slice none 0 0] rfl (by kernel_rfl) (by kernel_rfl) (by kernel_rfl)
      (OpenSpec.preRow_of_cond 8 hx rfl (fun k hk => by cases hk) (by kernel_rfl) (laid_met os))) ?_
  intro W base args ds gs before hval hW _ _ _ hL _ _
  exact contract H enc W base args ds gs before hval hW hL

theorem said : Rows.FnExactApplyDamagesSaid :=
  OpenClaim.holds_of_cond 6 Try.f6 rfl rfl rfl rfl rfl rfl rfl ⟨rfl, rfl, rfl, rfl, rfl⟩ rfl rfl rfl rfl rfl (by kernel_rfl) Try.func6 (by kernel_rfl)
    (of_decide_eq_true (by kernel_rfl)) (by unfold Func.isWrapper; first | (rw [if_pos (by decide +kernel)]; kernel_rfl) | (rw [if_neg (by decide +kernel)]; exact ⟨rfl, rfl⟩))
    (fun os started H enc _ F => by rw [OpenClaim.pre_eq_preRow]; exact lifted os started H enc F)

end Go.Proofs.Ythnjfdhijpfekaa.lawExactApplyDamages
