/-
  No cell of these rows narrows 'for every input' (looked for: loops, veiled, ifaces, maps, wideKeys, modest, calm, conditions, laid).
  DERIVED. THE GIVEN ROWS OF THIS SEAT. 5 by the template 'for every input the law returns true; each argument reads behind the call as it read before'; 0 by the template 'total and deterministic' (their statements: YthnjfdhijpfekaaTotals.lean).
  GIVEN WITH THE SEED: the statements are not yours to turn. If you find one false, say at which input.
  Laid BY PROGRAM, IN A SANDBOX (cutbox-rows.mjs): the forced cells as the released guide's own fill.sh prints them over the translation b15247ade563b10f… (all of the seat's roots in one cut). By AI agents, Wed Nov 11 2026. No macro, syntax, notation, axiom, sorry.
-/
import Derived.Test.YthnjfdhijpfekaaChecked
import GoSem.Claim
import GoSem.ClaimJoined
import GoSem.ClaimMapViews
import Derived.JoinedTies
import Derived.KernelRfl
namespace Go.Proofs.Ythnjfdhijpfekaa
/- THE CELL 'sum', in the pinned program and in every row, IS THE sha256 OF THE DUMP (.gsa) THAT YthnjfdhijpfekaaProg.lean LOADS. Nothing in Lean hashes anything: it is a label: what it is worth is what the hold of that sum in a sandbox is worth. -/
noncomputable def Try.pinned : Pinned := { name := "ythnjfdhijpfekaa", sum := "b15247ade563b10f5f8639edd0b8ae2618dd9e0235d8643534b02a0488ac4a03", checked := Try.checked }
namespace Rows
def none {H : Type} : Left H := { results := [], args := [] }

/-- 'laws.FnExactApplyDamage': WHATEVER THE INPUT: true; the input reads as it did. -/
def fnExactApplyDamageSpec : ChangeSpec := { name := "fnExactApplyDamage", fn := fun _ => fun
  | [d1, d2] => { results := [.lit (.bool true)], args := [d1, d2] }
  | _ => none }
def fnExactApplyDamageRow : OpenClaim := { program := "ythnjfdhijpfekaa", sum := "b15247ade563b10f5f8639edd0b8ae2618dd9e0235d8643534b02a0488ac4a03", func := "loop.example/g00879/laws.FnExactApplyDamage", spec := "fnExactApplyDamage", unfollowed := true, recurses := true, apart := false }
def FnExactApplyDamageSaid : Prop := fnExactApplyDamageRow.holds Try.pinned (OpenSpec.ofChange fnExactApplyDamageSpec)

/-- ITS FALSE NEIGHBOUR: 'it returns false'. Refute it at one input. -/
def fnExactApplyDamageWrong : ChangeSpec := { name := "fnExactApplyDamage", fn := fun _ => fun
  | [d1, d2] => { results := [.lit (.bool false)], args := [d1, d2] }
  | _ => none }
def FnExactApplyDamageWrongFalsely : Prop := fnExactApplyDamageRow.holds Try.pinned (OpenSpec.ofChange fnExactApplyDamageWrong)

/-- 'laws.FnTouches': WHATEVER THE INPUT: true; the input reads as it did. -/
def fnTouchesSpec : ChangeSpec := { name := "fnTouches", fn := fun _ => fun
  | [d] => { results := [.lit (.bool true)], args := [d] }
  | _ => none }
def fnTouchesRow : OpenClaim := { program := "ythnjfdhijpfekaa", sum := "b15247ade563b10f5f8639edd0b8ae2618dd9e0235d8643534b02a0488ac4a03", func := "loop.example/g00879/laws.FnTouches", spec := "fnTouches", unfollowed := true, recurses := true, apart := false }
def FnTouchesSaid : Prop := fnTouchesRow.holds Try.pinned (OpenSpec.ofChange fnTouchesSpec)

/-- ITS FALSE NEIGHBOUR: 'it returns false'. Refute it at one input. -/
def fnTouchesWrong : ChangeSpec := { name := "fnTouches", fn := fun _ => fun
  | [d] => { results := [.lit (.bool false)], args := [d] }
  | _ => none }
def FnTouchesWrongFalsely : Prop := fnTouchesRow.holds Try.pinned (OpenSpec.ofChange fnTouchesWrong)

/-- 'laws.FnDamages': WHATEVER THE INPUT: true; the input reads as it did. -/
def fnDamagesSpec : ChangeSpec := { name := "fnDamages", fn := fun _ => fun
  | [d] => { results := [.lit (.bool true)], args := [d] }
  | _ => none }
def fnDamagesRow : OpenClaim := { program := "ythnjfdhijpfekaa", sum := "b15247ade563b10f5f8639edd0b8ae2618dd9e0235d8643534b02a0488ac4a03", func := "loop.example/g00879/laws.FnDamages", spec := "fnDamages", unfollowed := true, recurses := true, apart := false }
def FnDamagesSaid : Prop := fnDamagesRow.holds Try.pinned (OpenSpec.ofChange fnDamagesSpec)

/-- ITS FALSE NEIGHBOUR: 'it returns false'. Refute it at one input. -/
def fnDamagesWrong : ChangeSpec := { name := "fnDamages", fn := fun _ => fun
  | [d] => { results := [.lit (.bool false)], args := [d] }
  | _ => none }
def FnDamagesWrongFalsely : Prop := fnDamagesRow.holds Try.pinned (OpenSpec.ofChange fnDamagesWrong)

/-- 'laws.FnExactApplyDamages': WHATEVER THE INPUT: true; the input reads as it did. -/
def fnExactApplyDamagesSpec : ChangeSpec := { name := "fnExactApplyDamages", fn := fun _ => fun
  | [d1, d2] => { results := [.lit (.bool true)], args := [d1, d2] }
  | _ => none }
def fnExactApplyDamagesRow : OpenClaim := { program := "ythnjfdhijpfekaa", sum := "b15247ade563b10f5f8639edd0b8ae2618dd9e0235d8643534b02a0488ac4a03", func := "loop.example/g00879/laws.FnExactApplyDamages", spec := "fnExactApplyDamages", unfollowed := true, recurses := true, apart := false }
def FnExactApplyDamagesSaid : Prop := fnExactApplyDamagesRow.holds Try.pinned (OpenSpec.ofChange fnExactApplyDamagesSpec)

/-- ITS FALSE NEIGHBOUR: 'it returns false'. Refute it at one input. -/
def fnExactApplyDamagesWrong : ChangeSpec := { name := "fnExactApplyDamages", fn := fun _ => fun
  | [d1, d2] => { results := [.lit (.bool false)], args := [d1, d2] }
  | _ => none }
def FnExactApplyDamagesWrongFalsely : Prop := fnExactApplyDamagesRow.holds Try.pinned (OpenSpec.ofChange fnExactApplyDamagesWrong)

/-- 'laws.FnTouchedModules': WHATEVER THE INPUT: true; the input reads as it did. -/
def fnTouchedModulesSpec : ChangeSpec := { name := "fnTouchedModules", fn := fun _ => fun
  | [d] => { results := [.lit (.bool true)], args := [d] }
  | _ => none }
def fnTouchedModulesRow : OpenClaim := { program := "ythnjfdhijpfekaa", sum := "b15247ade563b10f5f8639edd0b8ae2618dd9e0235d8643534b02a0488ac4a03", func := "loop.example/g00879/laws.FnTouchedModules", spec := "fnTouchedModules", unfollowed := true, recurses := true, apart := false }
def FnTouchedModulesSaid : Prop := fnTouchedModulesRow.holds Try.pinned (OpenSpec.ofChange fnTouchedModulesSpec)

/-- ITS FALSE NEIGHBOUR: 'it returns false'. Refute it at one input. -/
def fnTouchedModulesWrong : ChangeSpec := { name := "fnTouchedModules", fn := fun _ => fun
  | [d] => { results := [.lit (.bool false)], args := [d] }
  | _ => none }
def FnTouchedModulesWrongFalsely : Prop := fnTouchedModulesRow.holds Try.pinned (OpenSpec.ofChange fnTouchedModulesWrong)

/- THE SECOND FORM. 'bulk': how many values and letters a reading holds, each counted each time it is reached (what is shared counts as often as it is met; a slice's spare places count too). A statement '..UptoSaid' is the law's where the arguments, and the package variables that the reading takes, are together of bulk at most 1048576: NARROWER than '..Said'. Prove '..Said' where nothing that the law and all that it calls make is longer than what came in: it says more and counts as full. Else prove '..UptoSaid'. A law counts once. -/
mutual
def uptoBulk {H : Type} : DataW H → Nat
  | .lit (.string bytes) => bytes.length + 1
  | .lit _ => 1
  | .nil => 1
  | .ptr d => uptoBulk d + 1
  | .slice elems spare => uptoBulkAll elems + uptoBulkAll spare + 1
  | .agg parts => uptoBulkAll parts + 1
  | .iface _ d => uptoBulk d + 1
  | .map entries => uptoBulkEntries entries + 1
  | .held _ => 1
def uptoBulkAll {H : Type} : List (DataW H) → Nat
  | [] => 0
  | d :: r => uptoBulk d + uptoBulkAll r
def uptoBulkEntries {H : Type} : List (Lit × DataW H) → Nat
  | [] => 0
  | x :: r => uptoBulkEntry x + uptoBulkEntries r
def uptoBulkEntry {H : Type} : Lit × DataW H → Nat
  | (.string bytes, d) => bytes.length + uptoBulk d + 1
  | (_, d) => uptoBulk d + 1
 end
def uptoSmall : (H : Type) → List (DataW H) → Bool := fun _ ds => decide (uptoBulkAll ds ≤ 1048576)
def OpenSpec.upto (s : _root_.Go.ChangeSpec) : _root_.Go.OpenSpec := { _root_.Go.OpenSpec.ofChange s with cond := some uptoSmall }

/-- 'laws.FnExactApplyDamage', WHERE WHAT IT READS IS OF BULK AT MOST 1048576: true; the input reads as it did. -/
def fnExactApplyDamageUptoRow : OpenClaim := { program := "ythnjfdhijpfekaa", sum := "b15247ade563b10f5f8639edd0b8ae2618dd9e0235d8643534b02a0488ac4a03", func := "loop.example/g00879/laws.FnExactApplyDamage", spec := "fnExactApplyDamage", unfollowed := true, recurses := true, apart := false, narrowed := true }
def FnExactApplyDamageUptoSaid : Prop := fnExactApplyDamageUptoRow.holds Try.pinned (OpenSpec.upto fnExactApplyDamageSpec)

/-- 'laws.FnTouches', WHERE WHAT IT READS IS OF BULK AT MOST 1048576: true; the input reads as it did. -/
def fnTouchesUptoRow : OpenClaim := { program := "ythnjfdhijpfekaa", sum := "b15247ade563b10f5f8639edd0b8ae2618dd9e0235d8643534b02a0488ac4a03", func := "loop.example/g00879/laws.FnTouches", spec := "fnTouches", unfollowed := true, recurses := true, apart := false, narrowed := true }
def FnTouchesUptoSaid : Prop := fnTouchesUptoRow.holds Try.pinned (OpenSpec.upto fnTouchesSpec)

/-- 'laws.FnDamages', WHERE WHAT IT READS IS OF BULK AT MOST 1048576: true; the input reads as it did. -/
def fnDamagesUptoRow : OpenClaim := { program := "ythnjfdhijpfekaa", sum := "b15247ade563b10f5f8639edd0b8ae2618dd9e0235d8643534b02a0488ac4a03", func := "loop.example/g00879/laws.FnDamages", spec := "fnDamages", unfollowed := true, recurses := true, apart := false, narrowed := true }
def FnDamagesUptoSaid : Prop := fnDamagesUptoRow.holds Try.pinned (OpenSpec.upto fnDamagesSpec)

/-- 'laws.FnExactApplyDamages', WHERE WHAT IT READS IS OF BULK AT MOST 1048576: true; the input reads as it did. -/
def fnExactApplyDamagesUptoRow : OpenClaim := { program := "ythnjfdhijpfekaa", sum := "b15247ade563b10f5f8639edd0b8ae2618dd9e0235d8643534b02a0488ac4a03", func := "loop.example/g00879/laws.FnExactApplyDamages", spec := "fnExactApplyDamages", unfollowed := true, recurses := true, apart := false, narrowed := true }
def FnExactApplyDamagesUptoSaid : Prop := fnExactApplyDamagesUptoRow.holds Try.pinned (OpenSpec.upto fnExactApplyDamagesSpec)

/-- 'laws.FnTouchedModules', WHERE WHAT IT READS IS OF BULK AT MOST 1048576: true; the input reads as it did. -/
def fnTouchedModulesUptoRow : OpenClaim := { program := "ythnjfdhijpfekaa", sum := "b15247ade563b10f5f8639edd0b8ae2618dd9e0235d8643534b02a0488ac4a03", func := "loop.example/g00879/laws.FnTouchedModules", spec := "fnTouchedModules", unfollowed := true, recurses := true, apart := false, narrowed := true }
def FnTouchedModulesUptoSaid : Prop := fnTouchedModulesUptoRow.holds Try.pinned (OpenSpec.upto fnTouchedModulesSpec)

end Rows
end Go.Proofs.Ythnjfdhijpfekaa
