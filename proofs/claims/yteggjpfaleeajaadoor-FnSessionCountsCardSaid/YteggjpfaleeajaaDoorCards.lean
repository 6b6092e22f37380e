/-
  DERIVED. GIVEN WITH THE SEED: THE CARDS: each row of YteggjpfaleeajaaDoorRows.lean that lists a variable, with what it lists TIED to the program's text (the seventh form; the later family's looks); each row that meets fmt, with fmt's text TOLD by the authors' own Lean function (tested against real Go, not proved from fmt's source: count such statements apart). THE CARD IS WHAT COUNTS. Prove the row's statement (the work); the ties are given (YteggjpfaleeajaaDoorTie.lean); close each card by the builder's one call (the guide's Derived/Test/ToyasCard.lean, 'card_holds'). Laid BY PROGRAM, IN A SANDBOX (cutbox-door.mjs). By AI agents, Wed Nov 11 2026. No macro, syntax, notation, axiom, sorry.
-/
import Derived.Test.YteggjpfaleeajaaDoorRows
import GoSem.ClaimSeven
namespace Go.Proofs.YteggjpfaleeajaaDoor
namespace Rows

/-- THE TIED CARD OF 'laws.FnExactNewSession'. -/
def fnExactNewSessionCard : Claim7 := { stood := { row := fnExactNewSessionRow, standIns := [], harness := (true, "a1e526f976ee6db15c6aa22a7f26c801db69c5f2bf41054ae4b52a2f534fd729"), looks := false }, kinds := [], alts := [], laidByText := true, laidKinds := [.data, .data, .data], laidTests := true, laidLooks := .later }
def FnExactNewSessionCardSaid : Prop := Claim7.holds Tryd.pinned (.plain (OpenSpec.ofChange fnExactNewSessionSpec)) fnExactNewSessionCard

/-- THE TIED CARD OF 'laws.FnExactIsSession'. -/
def fnExactIsSessionCard : Claim7 := { stood := { row := fnExactIsSessionRow, standIns := [], harness := (true, "a1e526f976ee6db15c6aa22a7f26c801db69c5f2bf41054ae4b52a2f534fd729"), looks := false }, kinds := [], alts := [], laidByText := true, laidKinds := [.data, .data, .data], laidTests := true, laidLooks := .later }
def FnExactIsSessionCardSaid : Prop := Claim7.holds Tryd.pinned (.plain (OpenSpec.ofChange fnExactIsSessionSpec)) fnExactIsSessionCard

/-- THE TIED CARD OF 'laws.FnExactIsComplete'. -/
def fnExactIsCompleteCard : Claim7 := { stood := { row := fnExactIsCompleteRow, standIns := [], harness := (true, "a1e526f976ee6db15c6aa22a7f26c801db69c5f2bf41054ae4b52a2f534fd729"), looks := false }, kinds := [], alts := [], laidByText := true, laidKinds := [.data, .data, .data], laidTests := true, laidLooks := .later }
def FnExactIsCompleteCardSaid : Prop := Claim7.holds Tryd.pinned (.plain (OpenSpec.ofChange fnExactIsCompleteSpec)) fnExactIsCompleteCard

/-- THE TIED CARD OF 'laws.FnExactNextToPrint'. -/
def fnExactNextToPrintCard : Claim7 := { stood := { row := fnExactNextToPrintRow, standIns := [], harness := (true, "a1e526f976ee6db15c6aa22a7f26c801db69c5f2bf41054ae4b52a2f534fd729"), looks := false }, kinds := [], alts := [], laidByText := true, laidKinds := [.data, .data, .data], laidTests := true, laidLooks := .later }
def FnExactNextToPrintCardSaid : Prop := Claim7.holds Tryd.pinned (.plain (OpenSpec.ofChange fnExactNextToPrintSpec)) fnExactNextToPrintCard

/-- THE TIED CARD OF 'laws.FnExactStateCounts'. -/
def fnExactStateCountsCard : Claim7 := { stood := { row := fnExactStateCountsRow, standIns := [], harness := (true, "a1e526f976ee6db15c6aa22a7f26c801db69c5f2bf41054ae4b52a2f534fd729"), looks := false }, kinds := [], alts := [], laidByText := true, laidKinds := [.data, .data, .data], laidTests := true, laidLooks := .later }
def FnExactStateCountsCardSaid : Prop := Claim7.holds Tryd.pinned (.plain (OpenSpec.ofChange fnExactStateCountsSpec)) fnExactStateCountsCard

/-- THE TIED CARD OF 'laws.FnSessionCounts'. -/
def fnSessionCountsCard : Claim7 := { stood := { row := fnSessionCountsRow, standIns := [], harness := (true, "a1e526f976ee6db15c6aa22a7f26c801db69c5f2bf41054ae4b52a2f534fd729"), looks := false }, kinds := [], alts := [], laidByText := true, laidKinds := [.data, .data, .data], laidTests := true, laidLooks := .later }
def FnSessionCountsCardSaid : Prop := Claim7.holds Tryd.pinned (.plain (OpenSpec.ofChange fnSessionCountsSpec)) fnSessionCountsCard

/-- THE SECOND FORM's CARD OF 'laws.FnExactNewSession'. -/
def fnExactNewSessionUptoCard : Claim7 := { stood := { row := fnExactNewSessionUptoRow, standIns := [], harness := (true, "a1e526f976ee6db15c6aa22a7f26c801db69c5f2bf41054ae4b52a2f534fd729"), looks := false }, kinds := [], alts := [], laidByText := true, laidKinds := [.data, .data, .data], laidTests := true, laidLooks := .later }
def FnExactNewSessionUptoCardSaid : Prop := Claim7.holds Tryd.pinned (.plain (OpenSpec.upto fnExactNewSessionSpec)) fnExactNewSessionUptoCard

/-- THE SECOND FORM's CARD OF 'laws.FnExactIsSession'. -/
def fnExactIsSessionUptoCard : Claim7 := { stood := { row := fnExactIsSessionUptoRow, standIns := [], harness := (true, "a1e526f976ee6db15c6aa22a7f26c801db69c5f2bf41054ae4b52a2f534fd729"), looks := false }, kinds := [], alts := [], laidByText := true, laidKinds := [.data, .data, .data], laidTests := true, laidLooks := .later }
def FnExactIsSessionUptoCardSaid : Prop := Claim7.holds Tryd.pinned (.plain (OpenSpec.upto fnExactIsSessionSpec)) fnExactIsSessionUptoCard

/-- THE SECOND FORM's CARD OF 'laws.FnExactIsComplete'. -/
def fnExactIsCompleteUptoCard : Claim7 := { stood := { row := fnExactIsCompleteUptoRow, standIns := [], harness := (true, "a1e526f976ee6db15c6aa22a7f26c801db69c5f2bf41054ae4b52a2f534fd729"), looks := false }, kinds := [], alts := [], laidByText := true, laidKinds := [.data, .data, .data], laidTests := true, laidLooks := .later }
def FnExactIsCompleteUptoCardSaid : Prop := Claim7.holds Tryd.pinned (.plain (OpenSpec.upto fnExactIsCompleteSpec)) fnExactIsCompleteUptoCard

/-- THE SECOND FORM's CARD OF 'laws.FnExactNextToPrint'. -/
def fnExactNextToPrintUptoCard : Claim7 := { stood := { row := fnExactNextToPrintUptoRow, standIns := [], harness := (true, "a1e526f976ee6db15c6aa22a7f26c801db69c5f2bf41054ae4b52a2f534fd729"), looks := false }, kinds := [], alts := [], laidByText := true, laidKinds := [.data, .data, .data], laidTests := true, laidLooks := .later }
def FnExactNextToPrintUptoCardSaid : Prop := Claim7.holds Tryd.pinned (.plain (OpenSpec.upto fnExactNextToPrintSpec)) fnExactNextToPrintUptoCard

/-- THE SECOND FORM's CARD OF 'laws.FnExactStateCounts'. -/
def fnExactStateCountsUptoCard : Claim7 := { stood := { row := fnExactStateCountsUptoRow, standIns := [], harness := (true, "a1e526f976ee6db15c6aa22a7f26c801db69c5f2bf41054ae4b52a2f534fd729"), looks := false }, kinds := [], alts := [], laidByText := true, laidKinds := [.data, .data, .data], laidTests := true, laidLooks := .later }
def FnExactStateCountsUptoCardSaid : Prop := Claim7.holds Tryd.pinned (.plain (OpenSpec.upto fnExactStateCountsSpec)) fnExactStateCountsUptoCard

/-- THE SECOND FORM's CARD OF 'laws.FnSessionCounts'. -/
def fnSessionCountsUptoCard : Claim7 := { stood := { row := fnSessionCountsUptoRow, standIns := [], harness := (true, "a1e526f976ee6db15c6aa22a7f26c801db69c5f2bf41054ae4b52a2f534fd729"), looks := false }, kinds := [], alts := [], laidByText := true, laidKinds := [.data, .data, .data], laidTests := true, laidLooks := .later }
def FnSessionCountsUptoCardSaid : Prop := Claim7.holds Tryd.pinned (.plain (OpenSpec.upto fnSessionCountsSpec)) fnSessionCountsUptoCard
end Rows
end Go.Proofs.YteggjpfaleeajaaDoor
