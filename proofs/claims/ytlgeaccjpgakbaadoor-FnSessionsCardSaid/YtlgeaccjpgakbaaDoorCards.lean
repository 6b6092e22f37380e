/-
  DERIVED. GIVEN WITH THE SEED: THE CARDS: each row of YtlgeaccjpgakbaaDoorRows.lean that lists a variable, with what it lists TIED to the program's text (the seventh form; the later family's looks); each row that meets fmt, with fmt's text TOLD by the authors' own Lean function (tested against real Go, not proved from fmt's source: count such statements apart). THE CARD IS WHAT COUNTS. Prove the row's statement (the work); the ties are given (YtlgeaccjpgakbaaDoorTie.lean); close each card by the builder's one call (the guide's Derived/Test/ToyasCard.lean, 'card_holds'). Laid BY PROGRAM, IN A SANDBOX (cutbox-door.mjs). By AI agents, Wed Nov 11 2026. No macro, syntax, notation, axiom, sorry.
-/
import Derived.Test.YtlgeaccjpgakbaaDoorRows
import GoSem.ClaimSeven
namespace Go.Proofs.YtlgeaccjpgakbaaDoor
namespace Rows

/-- THE TIED CARD OF 'laws.FnSessions'. -/
def fnSessionsCard : Claim7 := { stood := { row := fnSessionsRow, standIns := [], harness := (true, "e6a52b011889d7d8da8b00d0d17de063c29e15fbe5b9c8a8327e6cc7f093180f"), looks := false }, kinds := [], alts := [], laidByText := true, laidKinds := [.data, .data, .data], laidTests := true, laidLooks := .later }
def FnSessionsCardSaid : Prop := Claim7.holds Tryd.pinned (.plain (OpenSpec.ofChange fnSessionsSpec)) fnSessionsCard

/-- THE TIED CARD OF 'laws.FnExactSerialOf'. -/
def fnExactSerialOfCard : Claim7 := { stood := { row := fnExactSerialOfRow, standIns := [], harness := (true, "e6a52b011889d7d8da8b00d0d17de063c29e15fbe5b9c8a8327e6cc7f093180f"), looks := false }, kinds := [], alts := [], laidByText := true, laidKinds := [.data, .data, .data], laidTests := true, laidLooks := .later }
def FnExactSerialOfCardSaid : Prop := Claim7.holds Tryd.pinned (.plain (OpenSpec.ofChange fnExactSerialOfSpec)) fnExactSerialOfCard

/-- THE TIED CARD OF 'laws.FnExactIndexOfSerial'. -/
def fnExactIndexOfSerialCard : Claim7 := { stood := { row := fnExactIndexOfSerialRow, standIns := [], harness := (true, "e6a52b011889d7d8da8b00d0d17de063c29e15fbe5b9c8a8327e6cc7f093180f"), looks := false }, kinds := [], alts := [], laidByText := true, laidKinds := [.data, .data, .data], laidTests := true, laidLooks := .later }
def FnExactIndexOfSerialCardSaid : Prop := Claim7.holds Tryd.pinned (.plain (OpenSpec.ofChange fnExactIndexOfSerialSpec)) fnExactIndexOfSerialCard

/-- THE TIED CARD OF 'laws.FnExactApplyRecord'. -/
def fnExactApplyRecordCard : Claim7 := { stood := { row := fnExactApplyRecordRow, standIns := [], harness := (true, "e6a52b011889d7d8da8b00d0d17de063c29e15fbe5b9c8a8327e6cc7f093180f"), looks := false }, kinds := [], alts := [], laidByText := true, laidKinds := [.data, .data, .data], laidTests := true, laidLooks := .later }
def FnExactApplyRecordCardSaid : Prop := Claim7.holds Tryd.pinned (.plain (OpenSpec.ofChange fnExactApplyRecordSpec)) fnExactApplyRecordCard

/-- THE TIED CARD OF 'laws.FnSerials'. -/
def fnSerialsCard : Claim7 := { stood := { row := fnSerialsRow, standIns := [], harness := (true, "e6a52b011889d7d8da8b00d0d17de063c29e15fbe5b9c8a8327e6cc7f093180f"), looks := false }, kinds := [], alts := [], laidByText := true, laidKinds := [.data, .data, .data], laidTests := true, laidLooks := .later }
def FnSerialsCardSaid : Prop := Claim7.holds Tryd.pinned (.plain (OpenSpec.ofChange fnSerialsSpec)) fnSerialsCard

/-- THE TIED CARD OF 'laws.FnExactVerifyBatch'. -/
def fnExactVerifyBatchCard : Claim7 := { stood := { row := fnExactVerifyBatchRow, standIns := [], harness := (true, "e6a52b011889d7d8da8b00d0d17de063c29e15fbe5b9c8a8327e6cc7f093180f"), looks := false }, kinds := [], alts := [], laidByText := true, laidKinds := [.data, .data, .data], laidTests := true, laidLooks := .later }
def FnExactVerifyBatchCardSaid : Prop := Claim7.holds Tryd.pinned (.plain (OpenSpec.ofChange fnExactVerifyBatchSpec)) fnExactVerifyBatchCard

/-- THE TIED CARD OF 'laws.FnVerified'. -/
def fnVerifiedCard : Claim7 := { stood := { row := fnVerifiedRow, standIns := [], harness := (true, "e6a52b011889d7d8da8b00d0d17de063c29e15fbe5b9c8a8327e6cc7f093180f"), looks := false }, kinds := [], alts := [], laidByText := true, laidKinds := [.data, .data, .data], laidTests := true, laidLooks := .later }
def FnVerifiedCardSaid : Prop := Claim7.holds Tryd.pinned (.plain (OpenSpec.ofChange fnVerifiedSpec)) fnVerifiedCard

/-- THE SECOND FORM's CARD OF 'laws.FnSessions'. -/
def fnSessionsUptoCard : Claim7 := { stood := { row := fnSessionsUptoRow, standIns := [], harness := (true, "e6a52b011889d7d8da8b00d0d17de063c29e15fbe5b9c8a8327e6cc7f093180f"), looks := false }, kinds := [], alts := [], laidByText := true, laidKinds := [.data, .data, .data], laidTests := true, laidLooks := .later }
def FnSessionsUptoCardSaid : Prop := Claim7.holds Tryd.pinned (.plain (OpenSpec.upto fnSessionsSpec)) fnSessionsUptoCard

/-- THE SECOND FORM's CARD OF 'laws.FnExactSerialOf'. -/
def fnExactSerialOfUptoCard : Claim7 := { stood := { row := fnExactSerialOfUptoRow, standIns := [], harness := (true, "e6a52b011889d7d8da8b00d0d17de063c29e15fbe5b9c8a8327e6cc7f093180f"), looks := false }, kinds := [], alts := [], laidByText := true, laidKinds := [.data, .data, .data], laidTests := true, laidLooks := .later }
def FnExactSerialOfUptoCardSaid : Prop := Claim7.holds Tryd.pinned (.plain (OpenSpec.upto fnExactSerialOfSpec)) fnExactSerialOfUptoCard

/-- THE SECOND FORM's CARD OF 'laws.FnExactIndexOfSerial'. -/
def fnExactIndexOfSerialUptoCard : Claim7 := { stood := { row := fnExactIndexOfSerialUptoRow, standIns := [], harness := (true, "e6a52b011889d7d8da8b00d0d17de063c29e15fbe5b9c8a8327e6cc7f093180f"), looks := false }, kinds := [], alts := [], laidByText := true, laidKinds := [.data, .data, .data], laidTests := true, laidLooks := .later }
def FnExactIndexOfSerialUptoCardSaid : Prop := Claim7.holds Tryd.pinned (.plain (OpenSpec.upto fnExactIndexOfSerialSpec)) fnExactIndexOfSerialUptoCard

/-- THE SECOND FORM's CARD OF 'laws.FnExactApplyRecord'. -/
def fnExactApplyRecordUptoCard : Claim7 := { stood := { row := fnExactApplyRecordUptoRow, standIns := [], harness := (true, "e6a52b011889d7d8da8b00d0d17de063c29e15fbe5b9c8a8327e6cc7f093180f"), looks := false }, kinds := [], alts := [], laidByText := true, laidKinds := [.data, .data, .data], laidTests := true, laidLooks := .later }
def FnExactApplyRecordUptoCardSaid : Prop := Claim7.holds Tryd.pinned (.plain (OpenSpec.upto fnExactApplyRecordSpec)) fnExactApplyRecordUptoCard

/-- THE SECOND FORM's CARD OF 'laws.FnSerials'. -/
def fnSerialsUptoCard : Claim7 := { stood := { row := fnSerialsUptoRow, standIns := [], harness := (true, "e6a52b011889d7d8da8b00d0d17de063c29e15fbe5b9c8a8327e6cc7f093180f"), looks := false }, kinds := [], alts := [], laidByText := true, laidKinds := [.data, .data, .data], laidTests := true, laidLooks := .later }
def FnSerialsUptoCardSaid : Prop := Claim7.holds Tryd.pinned (.plain (OpenSpec.upto fnSerialsSpec)) fnSerialsUptoCard

/-- THE SECOND FORM's CARD OF 'laws.FnExactVerifyBatch'. -/
def fnExactVerifyBatchUptoCard : Claim7 := { stood := { row := fnExactVerifyBatchUptoRow, standIns := [], harness := (true, "e6a52b011889d7d8da8b00d0d17de063c29e15fbe5b9c8a8327e6cc7f093180f"), looks := false }, kinds := [], alts := [], laidByText := true, laidKinds := [.data, .data, .data], laidTests := true, laidLooks := .later }
def FnExactVerifyBatchUptoCardSaid : Prop := Claim7.holds Tryd.pinned (.plain (OpenSpec.upto fnExactVerifyBatchSpec)) fnExactVerifyBatchUptoCard

/-- THE SECOND FORM's CARD OF 'laws.FnVerified'. -/
def fnVerifiedUptoCard : Claim7 := { stood := { row := fnVerifiedUptoRow, standIns := [], harness := (true, "e6a52b011889d7d8da8b00d0d17de063c29e15fbe5b9c8a8327e6cc7f093180f"), looks := false }, kinds := [], alts := [], laidByText := true, laidKinds := [.data, .data, .data], laidTests := true, laidLooks := .later }
def FnVerifiedUptoCardSaid : Prop := Claim7.holds Tryd.pinned (.plain (OpenSpec.upto fnVerifiedSpec)) fnVerifiedUptoCard
end Rows
end Go.Proofs.YtlgeaccjpgakbaaDoor
