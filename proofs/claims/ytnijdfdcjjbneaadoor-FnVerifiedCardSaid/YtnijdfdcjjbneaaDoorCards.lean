/-
  DERIVED. GIVEN WITH THE SEED: THE CARDS: each row of YtnijdfdcjjbneaaDoorRows.lean that lists a variable, with what it lists TIED to the program's text (the seventh form; the later family's looks); each row that meets fmt, with fmt's text TOLD by the authors' own Lean function (tested against real Go, not proved from fmt's source: count such statements apart). THE CARD IS WHAT COUNTS. Prove the row's statement (the work); the ties are given (YtnijdfdcjjbneaaDoorTie.lean); close each card by the builder's one call (the guide's Derived/Test/ToyasCard.lean, 'card_holds'). Laid BY PROGRAM, IN A SANDBOX (cutbox-door.mjs). By AI agents, Wed Nov 11 2026. No macro, syntax, notation, axiom, sorry.
-/
import Derived.Test.YtnijdfdcjjbneaaDoorRows
import GoSem.ClaimSeven
namespace Go.Proofs.YtnijdfdcjjbneaaDoor
namespace Rows

/-- THE TIED CARD OF 'laws.FnSerials'. -/
def fnSerialsCard : Claim7 := { stood := { row := fnSerialsRow, standIns := [], harness := (true, "087e14cf29c14ff80f90549c2f2f744377aa2713eddaccc3a2c4e8714f50e515"), looks := false }, kinds := [], alts := [], laidByText := true, laidKinds := [.data, .data, .data], laidTests := true, laidLooks := .later }
def FnSerialsCardSaid : Prop := Claim7.holds Tryd.pinned (.plain (OpenSpec.ofChange fnSerialsSpec)) fnSerialsCard

/-- THE TIED CARD OF 'laws.FnExactVerifyBatch'. -/
def fnExactVerifyBatchCard : Claim7 := { stood := { row := fnExactVerifyBatchRow, standIns := [], harness := (true, "087e14cf29c14ff80f90549c2f2f744377aa2713eddaccc3a2c4e8714f50e515"), looks := false }, kinds := [], alts := [], laidByText := true, laidKinds := [.data, .data, .data], laidTests := true, laidLooks := .later }
def FnExactVerifyBatchCardSaid : Prop := Claim7.holds Tryd.pinned (.plain (OpenSpec.ofChange fnExactVerifyBatchSpec)) fnExactVerifyBatchCard

/-- THE TIED CARD OF 'laws.FnVerified'. -/
def fnVerifiedCard : Claim7 := { stood := { row := fnVerifiedRow, standIns := [], harness := (true, "087e14cf29c14ff80f90549c2f2f744377aa2713eddaccc3a2c4e8714f50e515"), looks := false }, kinds := [], alts := [], laidByText := true, laidKinds := [.data, .data, .data], laidTests := true, laidLooks := .later }
def FnVerifiedCardSaid : Prop := Claim7.holds Tryd.pinned (.plain (OpenSpec.ofChange fnVerifiedSpec)) fnVerifiedCard

/-- THE SECOND FORM's CARD OF 'laws.FnSerials'. -/
def fnSerialsUptoCard : Claim7 := { stood := { row := fnSerialsUptoRow, standIns := [], harness := (true, "087e14cf29c14ff80f90549c2f2f744377aa2713eddaccc3a2c4e8714f50e515"), looks := false }, kinds := [], alts := [], laidByText := true, laidKinds := [.data, .data, .data], laidTests := true, laidLooks := .later }
def FnSerialsUptoCardSaid : Prop := Claim7.holds Tryd.pinned (.plain (OpenSpec.upto fnSerialsSpec)) fnSerialsUptoCard

/-- THE SECOND FORM's CARD OF 'laws.FnExactVerifyBatch'. -/
def fnExactVerifyBatchUptoCard : Claim7 := { stood := { row := fnExactVerifyBatchUptoRow, standIns := [], harness := (true, "087e14cf29c14ff80f90549c2f2f744377aa2713eddaccc3a2c4e8714f50e515"), looks := false }, kinds := [], alts := [], laidByText := true, laidKinds := [.data, .data, .data], laidTests := true, laidLooks := .later }
def FnExactVerifyBatchUptoCardSaid : Prop := Claim7.holds Tryd.pinned (.plain (OpenSpec.upto fnExactVerifyBatchSpec)) fnExactVerifyBatchUptoCard

/-- THE SECOND FORM's CARD OF 'laws.FnVerified'. -/
def fnVerifiedUptoCard : Claim7 := { stood := { row := fnVerifiedUptoRow, standIns := [], harness := (true, "087e14cf29c14ff80f90549c2f2f744377aa2713eddaccc3a2c4e8714f50e515"), looks := false }, kinds := [], alts := [], laidByText := true, laidKinds := [.data, .data, .data], laidTests := true, laidLooks := .later }
def FnVerifiedUptoCardSaid : Prop := Claim7.holds Tryd.pinned (.plain (OpenSpec.upto fnVerifiedSpec)) fnVerifiedUptoCard
end Rows
end Go.Proofs.YtnijdfdcjjbneaaDoor
