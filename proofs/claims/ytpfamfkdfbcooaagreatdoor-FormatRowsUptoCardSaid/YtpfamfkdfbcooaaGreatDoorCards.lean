/-
  DERIVED. GIVEN WITH THE SEED: THE CARDS: each row of YtpfamfkdfbcooaaGreatDoorRows.lean that lists a variable, with what it lists TIED to the program's text (the seventh form; the later family's looks); each row that meets fmt, with fmt's text TOLD by the authors' own Lean function (tested against real Go, not proved from fmt's source: count such statements apart). THE CARD IS WHAT COUNTS. Prove the row's statement (the work); the ties are given (YtpfamfkdfbcooaaGreatDoorTie.lean); close each card by the builder's one call (the guide's Derived/Test/ToyasCard.lean, 'card_holds'). Laid BY PROGRAM, IN A SANDBOX (cutbox-door.mjs). By AI agents, Wed Nov 11 2026. No macro, syntax, notation, axiom, sorry.
-/
import Derived.Test.YtpfamfkdfbcooaaGreatDoorRows
import GoSem.ClaimSeven
namespace Go.Proofs.YtpfamfkdfbcooaaGreatDoor
namespace Rows

/-- THE TIED CARD OF 'colanderlaw13.FormatFormats'. -/
def formatFormatsCard : Claim7 := { stood := { row := formatFormatsRow, standIns := [], harness := (true, "91d809ed699a8976516926aa9fd03abc642d7ab4a3c3b5524287e9cbe05200b8"), looks := true }, kinds := [], alts := [], laidByText := true, laidKinds := [.data, .data, .data, .data, .data, .sentinel, .sentinel, .pinned, .pinned, .pinned], laidTests := true, laidLooks := .later }
def FormatFormatsCardSaid : Prop := Claim7.holds Tryz.pinned (.plain (OpenSpec.ofChange formatFormatsSpec)) formatFormatsCard

/-- THE TIED CARD OF 'colanderlaw13.FormatBase64'. -/
def formatBase64Card : Claim7 := { stood := { row := formatBase64Row, standIns := [], harness := (true, "91d809ed699a8976516926aa9fd03abc642d7ab4a3c3b5524287e9cbe05200b8"), looks := true }, kinds := [], alts := [], laidByText := true, laidKinds := [.data, .data, .data, .data, .data, .sentinel, .sentinel, .pinned, .pinned, .pinned], laidTests := true, laidLooks := .later }
def FormatBase64CardSaid : Prop := Claim7.holds Tryz.pinned (.plain (OpenSpec.ofChange formatBase64Spec)) formatBase64Card

/-- THE TIED CARD OF 'colanderlaw13.FormatShell'. -/
def formatShellCard : Claim7 := { stood := { row := formatShellRow, standIns := [], harness := (true, "91d809ed699a8976516926aa9fd03abc642d7ab4a3c3b5524287e9cbe05200b8"), looks := true }, kinds := [], alts := [], laidByText := true, laidKinds := [.data, .data, .data, .data, .data, .sentinel, .sentinel, .pinned, .pinned, .pinned], laidTests := true, laidLooks := .later }
def FormatShellCardSaid : Prop := Claim7.holds Tryz.pinned (.plain (OpenSpec.ofChange formatShellSpec)) formatShellCard

/-- THE TIED CARD OF 'colanderlaw13.FormatRows'. -/
def formatRowsCard : Claim7 := { stood := { row := formatRowsRow, standIns := [], harness := (true, "91d809ed699a8976516926aa9fd03abc642d7ab4a3c3b5524287e9cbe05200b8"), looks := true }, kinds := [], alts := [], laidByText := true, laidKinds := [.data, .data, .data, .data, .data, .sentinel, .sentinel, .pinned, .pinned, .pinned], laidTests := true, laidLooks := .later }
def FormatRowsCardSaid : Prop := Claim7.holds Tryz.pinned (.plain (OpenSpec.ofChange formatRowsSpec)) formatRowsCard

/-- THE TIED CARD OF 'colanderlaw13.FormatSafe'. -/
def formatSafeCard : Claim7 := { stood := { row := formatSafeRow, standIns := [], harness := (true, "91d809ed699a8976516926aa9fd03abc642d7ab4a3c3b5524287e9cbe05200b8"), looks := true }, kinds := [], alts := [], laidByText := true, laidKinds := [.data, .data, .data, .data, .data, .sentinel, .sentinel, .pinned, .pinned, .pinned], laidTests := true, laidLooks := .later }
def FormatSafeCardSaid : Prop := Claim7.holds Tryz.pinned (.plain (OpenSpec.ofChange formatSafeSpec)) formatSafeCard

/-- THE SECOND FORM's CARD OF 'colanderlaw13.FormatFormats'. -/
def formatFormatsUptoCard : Claim7 := { stood := { row := formatFormatsUptoRow, standIns := [], harness := (true, "91d809ed699a8976516926aa9fd03abc642d7ab4a3c3b5524287e9cbe05200b8"), looks := true }, kinds := [], alts := [], laidByText := true, laidKinds := [.data, .data, .data, .data, .data, .sentinel, .sentinel, .pinned, .pinned, .pinned], laidTests := true, laidLooks := .later }
def FormatFormatsUptoCardSaid : Prop := Claim7.holds Tryz.pinned (.plain (OpenSpec.upto formatFormatsSpec)) formatFormatsUptoCard

/-- THE SECOND FORM's CARD OF 'colanderlaw13.FormatBase64'. -/
def formatBase64UptoCard : Claim7 := { stood := { row := formatBase64UptoRow, standIns := [], harness := (true, "91d809ed699a8976516926aa9fd03abc642d7ab4a3c3b5524287e9cbe05200b8"), looks := true }, kinds := [], alts := [], laidByText := true, laidKinds := [.data, .data, .data, .data, .data, .sentinel, .sentinel, .pinned, .pinned, .pinned], laidTests := true, laidLooks := .later }
def FormatBase64UptoCardSaid : Prop := Claim7.holds Tryz.pinned (.plain (OpenSpec.upto formatBase64Spec)) formatBase64UptoCard

/-- THE SECOND FORM's CARD OF 'colanderlaw13.FormatShell'. -/
def formatShellUptoCard : Claim7 := { stood := { row := formatShellUptoRow, standIns := [], harness := (true, "91d809ed699a8976516926aa9fd03abc642d7ab4a3c3b5524287e9cbe05200b8"), looks := true }, kinds := [], alts := [], laidByText := true, laidKinds := [.data, .data, .data, .data, .data, .sentinel, .sentinel, .pinned, .pinned, .pinned], laidTests := true, laidLooks := .later }
def FormatShellUptoCardSaid : Prop := Claim7.holds Tryz.pinned (.plain (OpenSpec.upto formatShellSpec)) formatShellUptoCard

/-- THE SECOND FORM's CARD OF 'colanderlaw13.FormatRows'. -/
def formatRowsUptoCard : Claim7 := { stood := { row := formatRowsUptoRow, standIns := [], harness := (true, "91d809ed699a8976516926aa9fd03abc642d7ab4a3c3b5524287e9cbe05200b8"), looks := true }, kinds := [], alts := [], laidByText := true, laidKinds := [.data, .data, .data, .data, .data, .sentinel, .sentinel, .pinned, .pinned, .pinned], laidTests := true, laidLooks := .later }
def FormatRowsUptoCardSaid : Prop := Claim7.holds Tryz.pinned (.plain (OpenSpec.upto formatRowsSpec)) formatRowsUptoCard

/-- THE SECOND FORM's CARD OF 'colanderlaw13.FormatSafe'. -/
def formatSafeUptoCard : Claim7 := { stood := { row := formatSafeUptoRow, standIns := [], harness := (true, "91d809ed699a8976516926aa9fd03abc642d7ab4a3c3b5524287e9cbe05200b8"), looks := true }, kinds := [], alts := [], laidByText := true, laidKinds := [.data, .data, .data, .data, .data, .sentinel, .sentinel, .pinned, .pinned, .pinned], laidTests := true, laidLooks := .later }
def FormatSafeUptoCardSaid : Prop := Claim7.holds Tryz.pinned (.plain (OpenSpec.upto formatSafeSpec)) formatSafeUptoCard
end Rows
end Go.Proofs.YtpfamfkdfbcooaaGreatDoor
