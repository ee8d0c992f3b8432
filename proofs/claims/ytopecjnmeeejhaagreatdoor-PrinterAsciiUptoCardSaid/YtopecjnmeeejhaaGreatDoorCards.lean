/-
  DERIVED. GIVEN WITH THE SEED: THE CARDS: each row of YtopecjnmeeejhaaGreatDoorRows.lean that lists a variable, with what it lists TIED to the program's text (the seventh form; the later family's looks); each row that meets fmt, with fmt's text TOLD by the authors' own Lean function (tested against real Go, not proved from fmt's source: count such statements apart). THE CARD IS WHAT COUNTS. Prove the row's statement (the work); the ties are given (YtopecjnmeeejhaaGreatDoorTie.lean); close each card by the builder's one call (the guide's Derived/Test/ToyasCard.lean, 'card_holds'). Laid BY PROGRAM, IN A SANDBOX (cutbox-door.mjs). By AI agents, Wed Nov 11 2026. No macro, syntax, notation, axiom, sorry.
-/
import Derived.Test.YtopecjnmeeejhaaGreatDoorRows
import GoSem.ClaimSeven
namespace Go.Proofs.YtopecjnmeeejhaaGreatDoor
namespace Rows

/-- THE TIED CARD OF 'colanderlaw05.PrinterPrints'. -/
def printerPrintsCard : Claim7 := { stood := { row := printerPrintsRow, standIns := [], harness := (true, "e2600608fdd3f6a55930485d47653d771409e3a55d824fbc3f3fc5e088186fab"), looks := true }, kinds := [], alts := [], laidByText := true, laidKinds := [.data, .data, .data, .data, .data, .sentinel, .sentinel, .pinned, .pinned, .pinned], laidTests := true, laidLooks := .later }
def PrinterPrintsCardSaid : Prop := Claim7.holds Tryz.pinned (.plain (OpenSpec.ofChange printerPrintsSpec)) printerPrintsCard

/-- THE TIED CARD OF 'colanderlaw05.PrinterPieces'. -/
def printerPiecesCard : Claim7 := { stood := { row := printerPiecesRow, standIns := [], harness := (true, "e2600608fdd3f6a55930485d47653d771409e3a55d824fbc3f3fc5e088186fab"), looks := true }, kinds := [], alts := [], laidByText := true, laidKinds := [.data, .data, .data, .data, .data, .sentinel, .sentinel, .pinned, .pinned, .pinned], laidTests := true, laidLooks := .later }
def PrinterPiecesCardSaid : Prop := Claim7.holds Tryz.pinned (.plain (OpenSpec.ofChange printerPiecesSpec)) printerPiecesCard

/-- THE TIED CARD OF 'colanderlaw05.PrinterAscii'. -/
def printerAsciiCard : Claim7 := { stood := { row := printerAsciiRow, standIns := [], harness := (true, "e2600608fdd3f6a55930485d47653d771409e3a55d824fbc3f3fc5e088186fab"), looks := true }, kinds := [], alts := [], laidByText := true, laidKinds := [.data, .data, .data, .data, .data, .sentinel, .sentinel, .pinned, .pinned, .pinned], laidTests := true, laidLooks := .later }
def PrinterAsciiCardSaid : Prop := Claim7.holds Tryz.pinned (.plain (OpenSpec.ofChange printerAsciiSpec)) printerAsciiCard

/-- THE TIED CARD OF 'colanderlaw05.PrinterBlanks'. -/
def printerBlanksCard : Claim7 := { stood := { row := printerBlanksRow, standIns := [], harness := (true, "e2600608fdd3f6a55930485d47653d771409e3a55d824fbc3f3fc5e088186fab"), looks := true }, kinds := [], alts := [], laidByText := true, laidKinds := [.data, .data, .data, .data, .data, .sentinel, .sentinel, .pinned, .pinned, .pinned], laidTests := true, laidLooks := .later }
def PrinterBlanksCardSaid : Prop := Claim7.holds Tryz.pinned (.plain (OpenSpec.ofChange printerBlanksSpec)) printerBlanksCard

/-- THE TIED CARD OF 'colanderlaw13.FormatFormats'. -/
def formatFormatsCard : Claim7 := { stood := { row := formatFormatsRow, standIns := [], harness := (true, "e2600608fdd3f6a55930485d47653d771409e3a55d824fbc3f3fc5e088186fab"), looks := true }, kinds := [], alts := [], laidByText := true, laidKinds := [.data, .data, .data, .data, .data, .sentinel, .sentinel, .pinned, .pinned, .pinned], laidTests := true, laidLooks := .later }
def FormatFormatsCardSaid : Prop := Claim7.holds Tryz.pinned (.plain (OpenSpec.ofChange formatFormatsSpec)) formatFormatsCard

/-- THE TIED CARD OF 'colanderlaw13.FormatBase64'. -/
def formatBase64Card : Claim7 := { stood := { row := formatBase64Row, standIns := [], harness := (true, "e2600608fdd3f6a55930485d47653d771409e3a55d824fbc3f3fc5e088186fab"), looks := true }, kinds := [], alts := [], laidByText := true, laidKinds := [.data, .data, .data, .data, .data, .sentinel, .sentinel, .pinned, .pinned, .pinned], laidTests := true, laidLooks := .later }
def FormatBase64CardSaid : Prop := Claim7.holds Tryz.pinned (.plain (OpenSpec.ofChange formatBase64Spec)) formatBase64Card

/-- THE TIED CARD OF 'colanderlaw13.FormatShell'. -/
def formatShellCard : Claim7 := { stood := { row := formatShellRow, standIns := [], harness := (true, "e2600608fdd3f6a55930485d47653d771409e3a55d824fbc3f3fc5e088186fab"), looks := true }, kinds := [], alts := [], laidByText := true, laidKinds := [.data, .data, .data, .data, .data, .sentinel, .sentinel, .pinned, .pinned, .pinned], laidTests := true, laidLooks := .later }
def FormatShellCardSaid : Prop := Claim7.holds Tryz.pinned (.plain (OpenSpec.ofChange formatShellSpec)) formatShellCard

/-- THE TIED CARD OF 'colanderlaw13.FormatRows'. -/
def formatRowsCard : Claim7 := { stood := { row := formatRowsRow, standIns := [], harness := (true, "e2600608fdd3f6a55930485d47653d771409e3a55d824fbc3f3fc5e088186fab"), looks := true }, kinds := [], alts := [], laidByText := true, laidKinds := [.data, .data, .data, .data, .data, .sentinel, .sentinel, .pinned, .pinned, .pinned], laidTests := true, laidLooks := .later }
def FormatRowsCardSaid : Prop := Claim7.holds Tryz.pinned (.plain (OpenSpec.ofChange formatRowsSpec)) formatRowsCard

/-- THE TIED CARD OF 'colanderlaw13.FormatSafe'. -/
def formatSafeCard : Claim7 := { stood := { row := formatSafeRow, standIns := [], harness := (true, "e2600608fdd3f6a55930485d47653d771409e3a55d824fbc3f3fc5e088186fab"), looks := true }, kinds := [], alts := [], laidByText := true, laidKinds := [.data, .data, .data, .data, .data, .sentinel, .sentinel, .pinned, .pinned, .pinned], laidTests := true, laidLooks := .later }
def FormatSafeCardSaid : Prop := Claim7.holds Tryz.pinned (.plain (OpenSpec.ofChange formatSafeSpec)) formatSafeCard

/-- THE TIED CARD OF 'colanderlaw02.NumberTexts'. -/
def numberTextsCard : Claim7 := { stood := { row := numberTextsRow, standIns := [], harness := (true, "e2600608fdd3f6a55930485d47653d771409e3a55d824fbc3f3fc5e088186fab"), looks := true }, kinds := [], alts := [], laidByText := true, laidKinds := [.data, .data, .widerDeep, .widerDeep, .data, .data, .data, .data, .data, .data, .sentinel, .sentinel, .pinned, .pinned, .pinned], laidTests := true, laidLooks := .later }
def NumberTextsCardSaid : Prop := Claim7.holds Tryz.pinned (.plain (OpenSpec.ofChange numberTextsSpec)) numberTextsCard

/-- THE SECOND FORM's CARD OF 'colanderlaw05.PrinterPrints'. -/
def printerPrintsUptoCard : Claim7 := { stood := { row := printerPrintsUptoRow, standIns := [], harness := (true, "e2600608fdd3f6a55930485d47653d771409e3a55d824fbc3f3fc5e088186fab"), looks := true }, kinds := [], alts := [], laidByText := true, laidKinds := [.data, .data, .data, .data, .data, .sentinel, .sentinel, .pinned, .pinned, .pinned], laidTests := true, laidLooks := .later }
def PrinterPrintsUptoCardSaid : Prop := Claim7.holds Tryz.pinned (.plain (OpenSpec.upto printerPrintsSpec)) printerPrintsUptoCard

/-- THE SECOND FORM's CARD OF 'colanderlaw05.PrinterPieces'. -/
def printerPiecesUptoCard : Claim7 := { stood := { row := printerPiecesUptoRow, standIns := [], harness := (true, "e2600608fdd3f6a55930485d47653d771409e3a55d824fbc3f3fc5e088186fab"), looks := true }, kinds := [], alts := [], laidByText := true, laidKinds := [.data, .data, .data, .data, .data, .sentinel, .sentinel, .pinned, .pinned, .pinned], laidTests := true, laidLooks := .later }
def PrinterPiecesUptoCardSaid : Prop := Claim7.holds Tryz.pinned (.plain (OpenSpec.upto printerPiecesSpec)) printerPiecesUptoCard

/-- THE SECOND FORM's CARD OF 'colanderlaw05.PrinterAscii'. -/
def printerAsciiUptoCard : Claim7 := { stood := { row := printerAsciiUptoRow, standIns := [], harness := (true, "e2600608fdd3f6a55930485d47653d771409e3a55d824fbc3f3fc5e088186fab"), looks := true }, kinds := [], alts := [], laidByText := true, laidKinds := [.data, .data, .data, .data, .data, .sentinel, .sentinel, .pinned, .pinned, .pinned], laidTests := true, laidLooks := .later }
def PrinterAsciiUptoCardSaid : Prop := Claim7.holds Tryz.pinned (.plain (OpenSpec.upto printerAsciiSpec)) printerAsciiUptoCard

/-- THE SECOND FORM's CARD OF 'colanderlaw05.PrinterBlanks'. -/
def printerBlanksUptoCard : Claim7 := { stood := { row := printerBlanksUptoRow, standIns := [], harness := (true, "e2600608fdd3f6a55930485d47653d771409e3a55d824fbc3f3fc5e088186fab"), looks := true }, kinds := [], alts := [], laidByText := true, laidKinds := [.data, .data, .data, .data, .data, .sentinel, .sentinel, .pinned, .pinned, .pinned], laidTests := true, laidLooks := .later }
def PrinterBlanksUptoCardSaid : Prop := Claim7.holds Tryz.pinned (.plain (OpenSpec.upto printerBlanksSpec)) printerBlanksUptoCard

/-- THE SECOND FORM's CARD OF 'colanderlaw13.FormatFormats'. -/
def formatFormatsUptoCard : Claim7 := { stood := { row := formatFormatsUptoRow, standIns := [], harness := (true, "e2600608fdd3f6a55930485d47653d771409e3a55d824fbc3f3fc5e088186fab"), looks := true }, kinds := [], alts := [], laidByText := true, laidKinds := [.data, .data, .data, .data, .data, .sentinel, .sentinel, .pinned, .pinned, .pinned], laidTests := true, laidLooks := .later }
def FormatFormatsUptoCardSaid : Prop := Claim7.holds Tryz.pinned (.plain (OpenSpec.upto formatFormatsSpec)) formatFormatsUptoCard

/-- THE SECOND FORM's CARD OF 'colanderlaw13.FormatBase64'. -/
def formatBase64UptoCard : Claim7 := { stood := { row := formatBase64UptoRow, standIns := [], harness := (true, "e2600608fdd3f6a55930485d47653d771409e3a55d824fbc3f3fc5e088186fab"), looks := true }, kinds := [], alts := [], laidByText := true, laidKinds := [.data, .data, .data, .data, .data, .sentinel, .sentinel, .pinned, .pinned, .pinned], laidTests := true, laidLooks := .later }
def FormatBase64UptoCardSaid : Prop := Claim7.holds Tryz.pinned (.plain (OpenSpec.upto formatBase64Spec)) formatBase64UptoCard

/-- THE SECOND FORM's CARD OF 'colanderlaw13.FormatShell'. -/
def formatShellUptoCard : Claim7 := { stood := { row := formatShellUptoRow, standIns := [], harness := (true, "e2600608fdd3f6a55930485d47653d771409e3a55d824fbc3f3fc5e088186fab"), looks := true }, kinds := [], alts := [], laidByText := true, laidKinds := [.data, .data, .data, .data, .data, .sentinel, .sentinel, .pinned, .pinned, .pinned], laidTests := true, laidLooks := .later }
def FormatShellUptoCardSaid : Prop := Claim7.holds Tryz.pinned (.plain (OpenSpec.upto formatShellSpec)) formatShellUptoCard

/-- THE SECOND FORM's CARD OF 'colanderlaw13.FormatRows'. -/
def formatRowsUptoCard : Claim7 := { stood := { row := formatRowsUptoRow, standIns := [], harness := (true, "e2600608fdd3f6a55930485d47653d771409e3a55d824fbc3f3fc5e088186fab"), looks := true }, kinds := [], alts := [], laidByText := true, laidKinds := [.data, .data, .data, .data, .data, .sentinel, .sentinel, .pinned, .pinned, .pinned], laidTests := true, laidLooks := .later }
def FormatRowsUptoCardSaid : Prop := Claim7.holds Tryz.pinned (.plain (OpenSpec.upto formatRowsSpec)) formatRowsUptoCard

/-- THE SECOND FORM's CARD OF 'colanderlaw13.FormatSafe'. -/
def formatSafeUptoCard : Claim7 := { stood := { row := formatSafeUptoRow, standIns := [], harness := (true, "e2600608fdd3f6a55930485d47653d771409e3a55d824fbc3f3fc5e088186fab"), looks := true }, kinds := [], alts := [], laidByText := true, laidKinds := [.data, .data, .data, .data, .data, .sentinel, .sentinel, .pinned, .pinned, .pinned], laidTests := true, laidLooks := .later }
def FormatSafeUptoCardSaid : Prop := Claim7.holds Tryz.pinned (.plain (OpenSpec.upto formatSafeSpec)) formatSafeUptoCard

/-- THE SECOND FORM's CARD OF 'colanderlaw02.NumberTexts'. -/
def numberTextsUptoCard : Claim7 := { stood := { row := numberTextsUptoRow, standIns := [], harness := (true, "e2600608fdd3f6a55930485d47653d771409e3a55d824fbc3f3fc5e088186fab"), looks := true }, kinds := [], alts := [], laidByText := true, laidKinds := [.data, .data, .widerDeep, .widerDeep, .data, .data, .data, .data, .data, .data, .sentinel, .sentinel, .pinned, .pinned, .pinned], laidTests := true, laidLooks := .later }
def NumberTextsUptoCardSaid : Prop := Claim7.holds Tryz.pinned (.plain (OpenSpec.upto numberTextsSpec)) numberTextsUptoCard
end Rows
end Go.Proofs.YtopecjnmeeejhaaGreatDoor
