/-
  DERIVED. GIVEN WITH THE SEED: THE CARDS: each row of YtgfimdoildaonaaDoorRows.lean that lists a variable, with what it lists TIED to the program's text (the seventh form; the later family's looks); each row that meets fmt, with fmt's text TOLD by the authors' own Lean function (tested against real Go, not proved from fmt's source: count such statements apart). THE CARD IS WHAT COUNTS. Prove the row's statement (the work); the ties are given (YtgfimdoildaonaaDoorTie.lean); close each card by the builder's one call (the guide's Derived/Test/ToyasCard.lean, 'card_holds'). Laid BY PROGRAM, IN A SANDBOX (cutbox-door.mjs). By AI agents, Wed Nov 11 2026. No macro, syntax, notation, axiom, sorry.
-/
import Derived.Test.YtgfimdoildaonaaDoorRows
import GoSem.ClaimSeven
namespace Go.Proofs.YtgfimdoildaonaaDoor
namespace Rows

/-- THE TIED CARD OF 'laws.FnExactPhotoText'. -/
def fnExactPhotoTextCard : Claim7 := { stood := { row := fnExactPhotoTextRow, standIns := [], harness := (true, "7fc7a9b429c3cea0f1512a6a3749c69286ce459a8c56b5b8f08a53d16bf3b838"), looks := false }, kinds := [], alts := [], laidByText := true, laidKinds := [.data, .data, .data], laidTests := true, laidLooks := .later }
def FnExactPhotoTextCardSaid : Prop := Claim7.holds Tryd.pinned (.plain (OpenSpec.ofChange fnExactPhotoTextSpec)) fnExactPhotoTextCard

/-- THE TIED CARD OF 'laws.FnExactDigitsText'. -/
def fnExactDigitsTextCard : Claim7 := { stood := { row := fnExactDigitsTextRow, standIns := [], harness := (true, "7fc7a9b429c3cea0f1512a6a3749c69286ce459a8c56b5b8f08a53d16bf3b838"), looks := false }, kinds := [], alts := [], laidByText := true, laidKinds := [.data, .data, .data], laidTests := true, laidLooks := .later }
def FnExactDigitsTextCardSaid : Prop := Claim7.holds Tryd.pinned (.plain (OpenSpec.ofChange fnExactDigitsTextSpec)) fnExactDigitsTextCard

/-- THE TIED CARD OF 'laws.FnExactTicketText'. -/
def fnExactTicketTextCard : Claim7 := { stood := { row := fnExactTicketTextRow, standIns := [], harness := (true, "7fc7a9b429c3cea0f1512a6a3749c69286ce459a8c56b5b8f08a53d16bf3b838"), looks := false }, kinds := [], alts := [], laidByText := true, laidKinds := [.data, .data, .data], laidTests := true, laidLooks := .later }
def FnExactTicketTextCardSaid : Prop := Claim7.holds Tryd.pinned (.plain (OpenSpec.ofChange fnExactTicketTextSpec)) fnExactTicketTextCard

/-- THE SECOND FORM's CARD OF 'laws.FnExactPhotoText'. -/
def fnExactPhotoTextUptoCard : Claim7 := { stood := { row := fnExactPhotoTextUptoRow, standIns := [], harness := (true, "7fc7a9b429c3cea0f1512a6a3749c69286ce459a8c56b5b8f08a53d16bf3b838"), looks := false }, kinds := [], alts := [], laidByText := true, laidKinds := [.data, .data, .data], laidTests := true, laidLooks := .later }
def FnExactPhotoTextUptoCardSaid : Prop := Claim7.holds Tryd.pinned (.plain (OpenSpec.upto fnExactPhotoTextSpec)) fnExactPhotoTextUptoCard

/-- THE SECOND FORM's CARD OF 'laws.FnExactDigitsText'. -/
def fnExactDigitsTextUptoCard : Claim7 := { stood := { row := fnExactDigitsTextUptoRow, standIns := [], harness := (true, "7fc7a9b429c3cea0f1512a6a3749c69286ce459a8c56b5b8f08a53d16bf3b838"), looks := false }, kinds := [], alts := [], laidByText := true, laidKinds := [.data, .data, .data], laidTests := true, laidLooks := .later }
def FnExactDigitsTextUptoCardSaid : Prop := Claim7.holds Tryd.pinned (.plain (OpenSpec.upto fnExactDigitsTextSpec)) fnExactDigitsTextUptoCard

/-- THE SECOND FORM's CARD OF 'laws.FnExactTicketText'. -/
def fnExactTicketTextUptoCard : Claim7 := { stood := { row := fnExactTicketTextUptoRow, standIns := [], harness := (true, "7fc7a9b429c3cea0f1512a6a3749c69286ce459a8c56b5b8f08a53d16bf3b838"), looks := false }, kinds := [], alts := [], laidByText := true, laidKinds := [.data, .data, .data], laidTests := true, laidLooks := .later }
def FnExactTicketTextUptoCardSaid : Prop := Claim7.holds Tryd.pinned (.plain (OpenSpec.upto fnExactTicketTextSpec)) fnExactTicketTextUptoCard
end Rows
end Go.Proofs.YtgfimdoildaonaaDoor
