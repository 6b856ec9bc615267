/-
  DERIVED. GIVEN WITH THE SEED: THE CARDS: each row of YtkfpciggolkjeaaGreatDoorRows.lean that lists a variable, with what it lists TIED to the program's text (the seventh form; the later family's looks); each row that meets fmt, with fmt's text TOLD by the authors' own Lean function (tested against real Go, not proved from fmt's source: count such statements apart). THE CARD IS WHAT COUNTS. Prove the row's statement (the work); the ties are given (YtkfpciggolkjeaaGreatDoorTie.lean); close each card by the builder's one call (the guide's Derived/Test/ToyasCard.lean, 'card_holds'). Laid BY PROGRAM, IN A SANDBOX (cutbox-door.mjs). By AI agents, Wed Nov 11 2026. No macro, syntax, notation, axiom, sorry.
-/
import Derived.Test.YtkfpciggolkjeaaGreatDoorRows
import GoSem.ClaimSeven
namespace Go.Proofs.YtkfpciggolkjeaaGreatDoor
namespace Rows

/-- THE TIED CARD OF 'laws.FnExactFormatRule'. -/
def fnExactFormatRuleCard : Claim7 := { stood := { row := fnExactFormatRuleRow, standIns := [], harness := (true, "7aa0b2e15b6e3125b066e6765660a9e91f3b130fa941653e225b33cbedb99643"), looks := true }, kinds := [], alts := [], laidByText := true, laidKinds := [.data, .data, .data], laidTests := true, laidLooks := .later }
def FnExactFormatRuleCardSaid : Prop := Claim7.holds Tryz.pinned (.plain (OpenSpec.ofChange fnExactFormatRuleSpec)) fnExactFormatRuleCard

/-- THE TIED CARD OF 'laws.FnExactParseLiteral'. -/
def fnExactParseLiteralCard : Claim7 := { stood := { row := fnExactParseLiteralRow, standIns := [], harness := (true, "7aa0b2e15b6e3125b066e6765660a9e91f3b130fa941653e225b33cbedb99643"), looks := true }, kinds := [], alts := [], laidByText := true, laidKinds := [.data, .data, .data, .sentinel, .sentinel], laidTests := true, laidLooks := .later }
def FnExactParseLiteralCardSaid : Prop := Claim7.holds Tryz.pinned (.plain (OpenSpec.ofChange fnExactParseLiteralSpec)) fnExactParseLiteralCard

/-- THE TIED CARD OF 'laws.FnExactParseRule'. -/
def fnExactParseRuleCard : Claim7 := { stood := { row := fnExactParseRuleRow, standIns := [], harness := (true, "7aa0b2e15b6e3125b066e6765660a9e91f3b130fa941653e225b33cbedb99643"), looks := true }, kinds := [], alts := [], laidByText := true, laidKinds := [.data, .data, .data, .sentinel, .sentinel], laidTests := true, laidLooks := .later }
def FnExactParseRuleCardSaid : Prop := Claim7.holds Tryz.pinned (.plain (OpenSpec.ofChange fnExactParseRuleSpec)) fnExactParseRuleCard

/-- THE TIED CARD OF 'laws.FnExactParseSchedule'. -/
def fnExactParseScheduleCard : Claim7 := { stood := { row := fnExactParseScheduleRow, standIns := [], harness := (true, "7aa0b2e15b6e3125b066e6765660a9e91f3b130fa941653e225b33cbedb99643"), looks := true }, kinds := [], alts := [], laidByText := true, laidKinds := [.data, .data, .data, .sentinel, .sentinel], laidTests := true, laidLooks := .later }
def FnExactParseScheduleCardSaid : Prop := Claim7.holds Tryz.pinned (.plain (OpenSpec.ofChange fnExactParseScheduleSpec)) fnExactParseScheduleCard

/-- THE SECOND FORM's CARD OF 'laws.FnExactFormatRule'. -/
def fnExactFormatRuleUptoCard : Claim7 := { stood := { row := fnExactFormatRuleUptoRow, standIns := [], harness := (true, "7aa0b2e15b6e3125b066e6765660a9e91f3b130fa941653e225b33cbedb99643"), looks := true }, kinds := [], alts := [], laidByText := true, laidKinds := [.data, .data, .data], laidTests := true, laidLooks := .later }
def FnExactFormatRuleUptoCardSaid : Prop := Claim7.holds Tryz.pinned (.plain (OpenSpec.upto fnExactFormatRuleSpec)) fnExactFormatRuleUptoCard

/-- THE SECOND FORM's CARD OF 'laws.FnExactParseLiteral'. -/
def fnExactParseLiteralUptoCard : Claim7 := { stood := { row := fnExactParseLiteralUptoRow, standIns := [], harness := (true, "7aa0b2e15b6e3125b066e6765660a9e91f3b130fa941653e225b33cbedb99643"), looks := true }, kinds := [], alts := [], laidByText := true, laidKinds := [.data, .data, .data, .sentinel, .sentinel], laidTests := true, laidLooks := .later }
def FnExactParseLiteralUptoCardSaid : Prop := Claim7.holds Tryz.pinned (.plain (OpenSpec.upto fnExactParseLiteralSpec)) fnExactParseLiteralUptoCard

/-- THE SECOND FORM's CARD OF 'laws.FnExactParseRule'. -/
def fnExactParseRuleUptoCard : Claim7 := { stood := { row := fnExactParseRuleUptoRow, standIns := [], harness := (true, "7aa0b2e15b6e3125b066e6765660a9e91f3b130fa941653e225b33cbedb99643"), looks := true }, kinds := [], alts := [], laidByText := true, laidKinds := [.data, .data, .data, .sentinel, .sentinel], laidTests := true, laidLooks := .later }
def FnExactParseRuleUptoCardSaid : Prop := Claim7.holds Tryz.pinned (.plain (OpenSpec.upto fnExactParseRuleSpec)) fnExactParseRuleUptoCard

/-- THE SECOND FORM's CARD OF 'laws.FnExactParseSchedule'. -/
def fnExactParseScheduleUptoCard : Claim7 := { stood := { row := fnExactParseScheduleUptoRow, standIns := [], harness := (true, "7aa0b2e15b6e3125b066e6765660a9e91f3b130fa941653e225b33cbedb99643"), looks := true }, kinds := [], alts := [], laidByText := true, laidKinds := [.data, .data, .data, .sentinel, .sentinel], laidTests := true, laidLooks := .later }
def FnExactParseScheduleUptoCardSaid : Prop := Claim7.holds Tryz.pinned (.plain (OpenSpec.upto fnExactParseScheduleSpec)) fnExactParseScheduleUptoCard
end Rows
end Go.Proofs.YtkfpciggolkjeaaGreatDoor
