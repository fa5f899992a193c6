/-
  DERIVED. GIVEN WITH THE SEED: THE CARDS: each row of YtnicfhfclnmdaaaDoorRows.lean that lists a variable, with what it lists TIED to the program's text (the seventh form; the later family's looks); each row that meets fmt, with fmt's text TOLD by the authors' own Lean function (tested against real Go, not proved from fmt's source: count such statements apart). THE CARD IS WHAT COUNTS. Prove the row's statement (the work); the ties are given (YtnicfhfclnmdaaaDoorTie.lean); close each card by the builder's one call (the guide's Derived/Test/ToyasCard.lean, 'card_holds'). Laid BY PROGRAM, IN A SANDBOX (cutbox-door.mjs). By AI agents, Wed Nov 11 2026. No macro, syntax, notation, axiom, sorry.
-/
import Derived.Test.YtnicfhfclnmdaaaDoorRows
import GoSem.ClaimSeven
namespace Go.Proofs.YtnicfhfclnmdaaaDoor
namespace Rows

/-- THE TIED CARD OF 'laws.FnExactCellText'. -/
def fnExactCellTextCard : Claim7 := { stood := { row := fnExactCellTextRow, standIns := [], harness := (true, "0fd10de54675920186baac394307244da925ddc85f6854d8a0a537163887c21e"), looks := false }, kinds := [], alts := [], laidByText := true, laidKinds := [.data, .data, .data], laidTests := true, laidLooks := .later }
def FnExactCellTextCardSaid : Prop := Claim7.holds Tryd.pinned (.plain (OpenSpec.ofChange fnExactCellTextSpec)) fnExactCellTextCard

/-- THE TIED CARD OF 'laws.FnExactParseCell'. -/
def fnExactParseCellCard : Claim7 := { stood := { row := fnExactParseCellRow, standIns := [], harness := (true, "0fd10de54675920186baac394307244da925ddc85f6854d8a0a537163887c21e"), looks := false }, kinds := [], alts := [], laidByText := true, laidKinds := [.data, .data, .data], laidTests := true, laidLooks := .later }
def FnExactParseCellCardSaid : Prop := Claim7.holds Tryd.pinned (.plain (OpenSpec.ofChange fnExactParseCellSpec)) fnExactParseCellCard

/-- THE TIED CARD OF 'laws.FnExactWayText'. -/
def fnExactWayTextCard : Claim7 := { stood := { row := fnExactWayTextRow, standIns := [], harness := (true, "0fd10de54675920186baac394307244da925ddc85f6854d8a0a537163887c21e"), looks := false }, kinds := [], alts := [], laidByText := true, laidKinds := [.data, .data, .data], laidTests := true, laidLooks := .later }
def FnExactWayTextCardSaid : Prop := Claim7.holds Tryd.pinned (.plain (OpenSpec.ofChange fnExactWayTextSpec)) fnExactWayTextCard

/-- THE TIED CARD OF 'laws.FnExactPartyText'. -/
def fnExactPartyTextCard : Claim7 := { stood := { row := fnExactPartyTextRow, standIns := [], harness := (true, "0fd10de54675920186baac394307244da925ddc85f6854d8a0a537163887c21e"), looks := false }, kinds := [], alts := [], laidByText := true, laidKinds := [.data, .data, .data], laidTests := true, laidLooks := .later }
def FnExactPartyTextCardSaid : Prop := Claim7.holds Tryd.pinned (.plain (OpenSpec.ofChange fnExactPartyTextSpec)) fnExactPartyTextCard

/-- THE SECOND FORM's CARD OF 'laws.FnExactCellText'. -/
def fnExactCellTextUptoCard : Claim7 := { stood := { row := fnExactCellTextUptoRow, standIns := [], harness := (true, "0fd10de54675920186baac394307244da925ddc85f6854d8a0a537163887c21e"), looks := false }, kinds := [], alts := [], laidByText := true, laidKinds := [.data, .data, .data], laidTests := true, laidLooks := .later }
def FnExactCellTextUptoCardSaid : Prop := Claim7.holds Tryd.pinned (.plain (OpenSpec.upto fnExactCellTextSpec)) fnExactCellTextUptoCard

/-- THE SECOND FORM's CARD OF 'laws.FnExactParseCell'. -/
def fnExactParseCellUptoCard : Claim7 := { stood := { row := fnExactParseCellUptoRow, standIns := [], harness := (true, "0fd10de54675920186baac394307244da925ddc85f6854d8a0a537163887c21e"), looks := false }, kinds := [], alts := [], laidByText := true, laidKinds := [.data, .data, .data], laidTests := true, laidLooks := .later }
def FnExactParseCellUptoCardSaid : Prop := Claim7.holds Tryd.pinned (.plain (OpenSpec.upto fnExactParseCellSpec)) fnExactParseCellUptoCard

/-- THE SECOND FORM's CARD OF 'laws.FnExactWayText'. -/
def fnExactWayTextUptoCard : Claim7 := { stood := { row := fnExactWayTextUptoRow, standIns := [], harness := (true, "0fd10de54675920186baac394307244da925ddc85f6854d8a0a537163887c21e"), looks := false }, kinds := [], alts := [], laidByText := true, laidKinds := [.data, .data, .data], laidTests := true, laidLooks := .later }
def FnExactWayTextUptoCardSaid : Prop := Claim7.holds Tryd.pinned (.plain (OpenSpec.upto fnExactWayTextSpec)) fnExactWayTextUptoCard

/-- THE SECOND FORM's CARD OF 'laws.FnExactPartyText'. -/
def fnExactPartyTextUptoCard : Claim7 := { stood := { row := fnExactPartyTextUptoRow, standIns := [], harness := (true, "0fd10de54675920186baac394307244da925ddc85f6854d8a0a537163887c21e"), looks := false }, kinds := [], alts := [], laidByText := true, laidKinds := [.data, .data, .data], laidTests := true, laidLooks := .later }
def FnExactPartyTextUptoCardSaid : Prop := Claim7.holds Tryd.pinned (.plain (OpenSpec.upto fnExactPartyTextSpec)) fnExactPartyTextUptoCard
end Rows
end Go.Proofs.YtnicfhfclnmdaaaDoor
