/-
  DERIVED. GIVEN WITH THE SEED: THE CARDS: each row of YtkmfgchbfchdbaaDoorRows.lean that lists a variable, with what it lists TIED to the program's text (the seventh form; the later family's looks); each row that meets fmt, with fmt's text TOLD by the authors' own Lean function (tested against real Go, not proved from fmt's source: count such statements apart). THE CARD IS WHAT COUNTS. Prove the row's statement (the work); the ties are given (YtkmfgchbfchdbaaDoorTie.lean); close each card by the builder's one call (the guide's Derived/Test/ToyasCard.lean, 'card_holds'). Laid BY PROGRAM, IN A SANDBOX (cutbox-door.mjs). By AI agents, Wed Nov 11 2026. No macro, syntax, notation, axiom, sorry.
-/
import Derived.Test.YtkmfgchbfchdbaaDoorRows
import GoSem.ClaimSeven
namespace Go.Proofs.YtkmfgchbfchdbaaDoor
namespace Rows

/-- THE TIED CARD OF 'laws.FnExactReadDamages'. -/
def fnExactReadDamagesCard : Claim7 := { stood := { row := fnExactReadDamagesRow, standIns := [], harness := (true, "60f34123b8b628da9f97854b870d024884a76e6b3eb78f3132c195334d8827b3"), looks := true }, kinds := [], alts := [], laidByText := true, laidKinds := [.data, .data, .data, .data, .sentinel, .sentinel, .pinned], laidTests := true, laidLooks := .later }
def FnExactReadDamagesCardSaid : Prop := Claim7.holds Tryd.pinned (.plain (OpenSpec.ofChange fnExactReadDamagesSpec)) fnExactReadDamagesCard

/-- THE TIED CARD OF 'laws.FnRecovered'. -/
def fnRecoveredCard : Claim7 := { stood := { row := fnRecoveredRow, standIns := [], harness := (true, "60f34123b8b628da9f97854b870d024884a76e6b3eb78f3132c195334d8827b3"), looks := true }, kinds := [], alts := [], laidByText := true, laidKinds := [.data, .data, .data, .data, .sentinel, .sentinel, .pinned], laidTests := true, laidLooks := .later }
def FnRecoveredCardSaid : Prop := Claim7.holds Tryd.pinned (.plain (OpenSpec.ofChange fnRecoveredSpec)) fnRecoveredCard

/-- THE TIED CARD OF 'laws.FnExtended'. -/
def fnExtendedCard : Claim7 := { stood := { row := fnExtendedRow, standIns := [], harness := (true, "60f34123b8b628da9f97854b870d024884a76e6b3eb78f3132c195334d8827b3"), looks := true }, kinds := [], alts := [], laidByText := true, laidKinds := [.data, .data, .data, .data, .sentinel, .sentinel, .pinned], laidTests := true, laidLooks := .later }
def FnExtendedCardSaid : Prop := Claim7.holds Tryd.pinned (.plain (OpenSpec.ofChange fnExtendedSpec)) fnExtendedCard

/-- THE SECOND FORM's CARD OF 'laws.FnExactReadDamages'. -/
def fnExactReadDamagesUptoCard : Claim7 := { stood := { row := fnExactReadDamagesUptoRow, standIns := [], harness := (true, "60f34123b8b628da9f97854b870d024884a76e6b3eb78f3132c195334d8827b3"), looks := true }, kinds := [], alts := [], laidByText := true, laidKinds := [.data, .data, .data, .data, .sentinel, .sentinel, .pinned], laidTests := true, laidLooks := .later }
def FnExactReadDamagesUptoCardSaid : Prop := Claim7.holds Tryd.pinned (.plain (OpenSpec.upto fnExactReadDamagesSpec)) fnExactReadDamagesUptoCard

/-- THE SECOND FORM's CARD OF 'laws.FnRecovered'. -/
def fnRecoveredUptoCard : Claim7 := { stood := { row := fnRecoveredUptoRow, standIns := [], harness := (true, "60f34123b8b628da9f97854b870d024884a76e6b3eb78f3132c195334d8827b3"), looks := true }, kinds := [], alts := [], laidByText := true, laidKinds := [.data, .data, .data, .data, .sentinel, .sentinel, .pinned], laidTests := true, laidLooks := .later }
def FnRecoveredUptoCardSaid : Prop := Claim7.holds Tryd.pinned (.plain (OpenSpec.upto fnRecoveredSpec)) fnRecoveredUptoCard

/-- THE SECOND FORM's CARD OF 'laws.FnExtended'. -/
def fnExtendedUptoCard : Claim7 := { stood := { row := fnExtendedUptoRow, standIns := [], harness := (true, "60f34123b8b628da9f97854b870d024884a76e6b3eb78f3132c195334d8827b3"), looks := true }, kinds := [], alts := [], laidByText := true, laidKinds := [.data, .data, .data, .data, .sentinel, .sentinel, .pinned], laidTests := true, laidLooks := .later }
def FnExtendedUptoCardSaid : Prop := Claim7.holds Tryd.pinned (.plain (OpenSpec.upto fnExtendedSpec)) fnExtendedUptoCard
end Rows
end Go.Proofs.YtkmfgchbfchdbaaDoor
