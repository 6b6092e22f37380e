/-
  DERIVED. GIVEN WITH THE SEED: THE CARDS: each row of YtlcglclojlffgaaGreatDoorRows.lean that lists a variable, with what it lists TIED to the program's text (the seventh form; the later family's looks); each row that meets fmt, with fmt's text TOLD by the authors' own Lean function (tested against real Go, not proved from fmt's source: count such statements apart). THE CARD IS WHAT COUNTS. Prove the row's statement (the work); the ties are given (YtlcglclojlffgaaGreatDoorTie.lean); close each card by the builder's one call (the guide's Derived/Test/ToyasCard.lean, 'card_holds'). Laid BY PROGRAM, IN A SANDBOX (cutbox-door.mjs). By AI agents, Wed Nov 11 2026. No macro, syntax, notation, axiom, sorry.
-/
import Derived.Test.YtlcglclojlffgaaGreatDoorRows
import GoSem.ClaimSeven
namespace Go.Proofs.YtlcglclojlffgaaGreatDoor
namespace Rows

/-- THE TIED CARD OF 'laws.FnExactLabelText'. -/
def fnExactLabelTextCard : Claim7 := { stood := { row := fnExactLabelTextRow, standIns := [], harness := (true, "2c172ed75e918aa09355d3d417fd7f8fabba8990f15d51a138b1a07d63ca8db9"), looks := true }, kinds := [], alts := [], laidByText := true, laidKinds := [.data, .data, .data], laidTests := true, laidLooks := .later }
def FnExactLabelTextCardSaid : Prop := Claim7.holds Tryz.pinned (.plain (OpenSpec.ofChange fnExactLabelTextSpec)) fnExactLabelTextCard

/-- THE TIED CARD OF 'laws.FnLabelText'. -/
def fnLabelTextCard : Claim7 := { stood := { row := fnLabelTextRow, standIns := [], harness := (true, "2c172ed75e918aa09355d3d417fd7f8fabba8990f15d51a138b1a07d63ca8db9"), looks := true }, kinds := [], alts := [], laidByText := true, laidKinds := [.data, .data, .data, .data, .sentinel, .sentinel, .pinned], laidTests := true, laidLooks := .later }
def FnLabelTextCardSaid : Prop := Claim7.holds Tryz.pinned (.plain (OpenSpec.ofChange fnLabelTextSpec)) fnLabelTextCard

/-- THE TIED CARD OF 'laws.FnExactReadLabel'. -/
def fnExactReadLabelCard : Claim7 := { stood := { row := fnExactReadLabelRow, standIns := [], harness := (true, "2c172ed75e918aa09355d3d417fd7f8fabba8990f15d51a138b1a07d63ca8db9"), looks := true }, kinds := [], alts := [], laidByText := true, laidKinds := [.data, .data, .data, .data, .sentinel, .sentinel, .pinned], laidTests := true, laidLooks := .later }
def FnExactReadLabelCardSaid : Prop := Claim7.holds Tryz.pinned (.plain (OpenSpec.ofChange fnExactReadLabelSpec)) fnExactReadLabelCard

/-- THE SECOND FORM's CARD OF 'laws.FnExactLabelText'. -/
def fnExactLabelTextUptoCard : Claim7 := { stood := { row := fnExactLabelTextUptoRow, standIns := [], harness := (true, "2c172ed75e918aa09355d3d417fd7f8fabba8990f15d51a138b1a07d63ca8db9"), looks := true }, kinds := [], alts := [], laidByText := true, laidKinds := [.data, .data, .data], laidTests := true, laidLooks := .later }
def FnExactLabelTextUptoCardSaid : Prop := Claim7.holds Tryz.pinned (.plain (OpenSpec.upto fnExactLabelTextSpec)) fnExactLabelTextUptoCard

/-- THE SECOND FORM's CARD OF 'laws.FnLabelText'. -/
def fnLabelTextUptoCard : Claim7 := { stood := { row := fnLabelTextUptoRow, standIns := [], harness := (true, "2c172ed75e918aa09355d3d417fd7f8fabba8990f15d51a138b1a07d63ca8db9"), looks := true }, kinds := [], alts := [], laidByText := true, laidKinds := [.data, .data, .data, .data, .sentinel, .sentinel, .pinned], laidTests := true, laidLooks := .later }
def FnLabelTextUptoCardSaid : Prop := Claim7.holds Tryz.pinned (.plain (OpenSpec.upto fnLabelTextSpec)) fnLabelTextUptoCard

/-- THE SECOND FORM's CARD OF 'laws.FnExactReadLabel'. -/
def fnExactReadLabelUptoCard : Claim7 := { stood := { row := fnExactReadLabelUptoRow, standIns := [], harness := (true, "2c172ed75e918aa09355d3d417fd7f8fabba8990f15d51a138b1a07d63ca8db9"), looks := true }, kinds := [], alts := [], laidByText := true, laidKinds := [.data, .data, .data, .data, .sentinel, .sentinel, .pinned], laidTests := true, laidLooks := .later }
def FnExactReadLabelUptoCardSaid : Prop := Claim7.holds Tryz.pinned (.plain (OpenSpec.upto fnExactReadLabelSpec)) fnExactReadLabelUptoCard
end Rows
end Go.Proofs.YtlcglclojlffgaaGreatDoor
