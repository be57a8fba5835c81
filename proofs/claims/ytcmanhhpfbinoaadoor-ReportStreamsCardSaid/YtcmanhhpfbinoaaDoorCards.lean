/-
  DERIVED. GIVEN WITH THE SEED: THE CARDS: each row of YtcmanhhpfbinoaaDoorRows.lean that lists a variable, with what it lists TIED to the program's text (the seventh form; the later family's looks); each row that meets fmt, with fmt's text TOLD by the authors' own Lean function (tested against real Go, not proved from fmt's source: count such statements apart). THE CARD IS WHAT COUNTS. Prove the row's statement (the work); the ties are given (YtcmanhhpfbinoaaDoorTie.lean); close each card by the builder's one call (the guide's Derived/Test/ToyasCard.lean, 'card_holds'). Laid BY PROGRAM, IN A SANDBOX (cutbox-door.mjs). By AI agents, Wed Nov 11 2026. No macro, syntax, notation, axiom, sorry.
-/
import Derived.Test.YtcmanhhpfbinoaaDoorRows
import GoSem.ClaimSeven
namespace Go.Proofs.YtcmanhhpfbinoaaDoor
namespace Rows

/-- THE TIED CARD OF 'weighbridgelaw21.ReportLines'. -/
def reportLinesCard : Claim7 := { stood := { row := reportLinesRow, standIns := [], harness := (true, "244aac0bb6b8f27bd6fd3019de1654f6bae916aff85a576fbba28fb8c96c8f3a"), looks := false }, kinds := [], alts := [], laidByText := true, laidKinds := [.data, .data, .data], laidTests := true, laidLooks := .later }
def ReportLinesCardSaid : Prop := Claim7.holds Tryd.pinned (.plain (OpenSpec.ofChange reportLinesSpec)) reportLinesCard

/-- THE TIED CARD OF 'weighbridgelaw21.ReportAny'. -/
def reportAnyCard : Claim7 := { stood := { row := reportAnyRow, standIns := [], harness := (true, "244aac0bb6b8f27bd6fd3019de1654f6bae916aff85a576fbba28fb8c96c8f3a"), looks := false }, kinds := [], alts := [], laidByText := true, laidKinds := [.data, .data, .data], laidTests := true, laidLooks := .later }
def ReportAnyCardSaid : Prop := Claim7.holds Tryd.pinned (.plain (OpenSpec.ofChange reportAnySpec)) reportAnyCard

/-- THE TIED CARD OF 'weighbridgelaw21.ReportJoins'. -/
def reportJoinsCard : Claim7 := { stood := { row := reportJoinsRow, standIns := [], harness := (true, "244aac0bb6b8f27bd6fd3019de1654f6bae916aff85a576fbba28fb8c96c8f3a"), looks := false }, kinds := [], alts := [], laidByText := true, laidKinds := [.data, .data, .data], laidTests := true, laidLooks := .later }
def ReportJoinsCardSaid : Prop := Claim7.holds Tryd.pinned (.plain (OpenSpec.ofChange reportJoinsSpec)) reportJoinsCard

/-- THE TIED CARD OF 'weighbridgelaw21.ReportStreams'. -/
def reportStreamsCard : Claim7 := { stood := { row := reportStreamsRow, standIns := [], harness := (true, "244aac0bb6b8f27bd6fd3019de1654f6bae916aff85a576fbba28fb8c96c8f3a"), looks := false }, kinds := [], alts := [], laidByText := true, laidKinds := [.data, .data, .data], laidTests := true, laidLooks := .later }
def ReportStreamsCardSaid : Prop := Claim7.holds Tryd.pinned (.plain (OpenSpec.ofChange reportStreamsSpec)) reportStreamsCard

/-- THE SECOND FORM's CARD OF 'weighbridgelaw21.ReportLines'. -/
def reportLinesUptoCard : Claim7 := { stood := { row := reportLinesUptoRow, standIns := [], harness := (true, "244aac0bb6b8f27bd6fd3019de1654f6bae916aff85a576fbba28fb8c96c8f3a"), looks := false }, kinds := [], alts := [], laidByText := true, laidKinds := [.data, .data, .data], laidTests := true, laidLooks := .later }
def ReportLinesUptoCardSaid : Prop := Claim7.holds Tryd.pinned (.plain (OpenSpec.upto reportLinesSpec)) reportLinesUptoCard

/-- THE SECOND FORM's CARD OF 'weighbridgelaw21.ReportAny'. -/
def reportAnyUptoCard : Claim7 := { stood := { row := reportAnyUptoRow, standIns := [], harness := (true, "244aac0bb6b8f27bd6fd3019de1654f6bae916aff85a576fbba28fb8c96c8f3a"), looks := false }, kinds := [], alts := [], laidByText := true, laidKinds := [.data, .data, .data], laidTests := true, laidLooks := .later }
def ReportAnyUptoCardSaid : Prop := Claim7.holds Tryd.pinned (.plain (OpenSpec.upto reportAnySpec)) reportAnyUptoCard

/-- THE SECOND FORM's CARD OF 'weighbridgelaw21.ReportJoins'. -/
def reportJoinsUptoCard : Claim7 := { stood := { row := reportJoinsUptoRow, standIns := [], harness := (true, "244aac0bb6b8f27bd6fd3019de1654f6bae916aff85a576fbba28fb8c96c8f3a"), looks := false }, kinds := [], alts := [], laidByText := true, laidKinds := [.data, .data, .data], laidTests := true, laidLooks := .later }
def ReportJoinsUptoCardSaid : Prop := Claim7.holds Tryd.pinned (.plain (OpenSpec.upto reportJoinsSpec)) reportJoinsUptoCard

/-- THE SECOND FORM's CARD OF 'weighbridgelaw21.ReportStreams'. -/
def reportStreamsUptoCard : Claim7 := { stood := { row := reportStreamsUptoRow, standIns := [], harness := (true, "244aac0bb6b8f27bd6fd3019de1654f6bae916aff85a576fbba28fb8c96c8f3a"), looks := false }, kinds := [], alts := [], laidByText := true, laidKinds := [.data, .data, .data], laidTests := true, laidLooks := .later }
def ReportStreamsUptoCardSaid : Prop := Claim7.holds Tryd.pinned (.plain (OpenSpec.upto reportStreamsSpec)) reportStreamsUptoCard
end Rows
end Go.Proofs.YtcmanhhpfbinoaaDoor
