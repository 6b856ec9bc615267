/-
  DERIVED. GIVEN WITH THE SEED: THE CARDS: each row of YtkfpciggolkjeaaDoorRows.lean that lists a variable, with what it lists TIED to the program's text (the seventh form; the later family's looks); each row that meets fmt, with fmt's text TOLD by the authors' own Lean function (tested against real Go, not proved from fmt's source: count such statements apart). THE CARD IS WHAT COUNTS. Prove the row's statement (the work); the ties are given (YtkfpciggolkjeaaDoorTie.lean); close each card by the builder's one call (the guide's Derived/Test/ToyasCard.lean, 'card_holds'). Laid BY PROGRAM, IN A SANDBOX (cutbox-door.mjs). By AI agents, Wed Nov 11 2026. No macro, syntax, notation, axiom, sorry.
-/
import Derived.Test.YtkfpciggolkjeaaDoorRows
import GoSem.ClaimSeven
namespace Go.Proofs.YtkfpciggolkjeaaDoor
namespace Rows

/-- THE TIED CARD OF 'laws.FnExactFormatLiteral'. -/
def fnExactFormatLiteralCard : Claim7 := { stood := { row := fnExactFormatLiteralRow, standIns := [], harness := (true, "83987ecfd262ec5dae3956b73f93ed83e952ee054686bb2c170b07f0aadf713c"), looks := false }, kinds := [], alts := [], laidByText := true, laidKinds := [.data, .data, .data], laidTests := true, laidLooks := .later }
def FnExactFormatLiteralCardSaid : Prop := Claim7.holds Tryd.pinned (.plain (OpenSpec.ofChange fnExactFormatLiteralSpec)) fnExactFormatLiteralCard

/-- THE TIED CARD OF 'laws.FnExactFormatSchedule'. -/
def fnExactFormatScheduleCard : Claim7 := { stood := { row := fnExactFormatScheduleRow, standIns := [], harness := (true, "83987ecfd262ec5dae3956b73f93ed83e952ee054686bb2c170b07f0aadf713c"), looks := false }, kinds := [], alts := [], laidByText := true, laidKinds := [.data, .data, .data], laidTests := true, laidLooks := .later }
def FnExactFormatScheduleCardSaid : Prop := Claim7.holds Tryd.pinned (.plain (OpenSpec.ofChange fnExactFormatScheduleSpec)) fnExactFormatScheduleCard

/-- THE SECOND FORM's CARD OF 'laws.FnExactFormatLiteral'. -/
def fnExactFormatLiteralUptoCard : Claim7 := { stood := { row := fnExactFormatLiteralUptoRow, standIns := [], harness := (true, "83987ecfd262ec5dae3956b73f93ed83e952ee054686bb2c170b07f0aadf713c"), looks := false }, kinds := [], alts := [], laidByText := true, laidKinds := [.data, .data, .data], laidTests := true, laidLooks := .later }
def FnExactFormatLiteralUptoCardSaid : Prop := Claim7.holds Tryd.pinned (.plain (OpenSpec.upto fnExactFormatLiteralSpec)) fnExactFormatLiteralUptoCard

/-- THE SECOND FORM's CARD OF 'laws.FnExactFormatSchedule'. -/
def fnExactFormatScheduleUptoCard : Claim7 := { stood := { row := fnExactFormatScheduleUptoRow, standIns := [], harness := (true, "83987ecfd262ec5dae3956b73f93ed83e952ee054686bb2c170b07f0aadf713c"), looks := false }, kinds := [], alts := [], laidByText := true, laidKinds := [.data, .data, .data], laidTests := true, laidLooks := .later }
def FnExactFormatScheduleUptoCardSaid : Prop := Claim7.holds Tryd.pinned (.plain (OpenSpec.upto fnExactFormatScheduleSpec)) fnExactFormatScheduleUptoCard
end Rows
end Go.Proofs.YtkfpciggolkjeaaDoor
