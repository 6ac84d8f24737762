/-
  DERIVED. GIVEN WITH THE SEED: THE CARDS: each row of YtiaihdfpbgnaoaaDoorRows.lean that lists a variable, with what it lists TIED to the program's text (the seventh form; the later family's looks); each row that meets fmt, with fmt's text TOLD by the authors' own Lean function (tested against real Go, not proved from fmt's source: count such statements apart). THE CARD IS WHAT COUNTS. Prove the row's statement (the work); the ties are given (YtiaihdfpbgnaoaaDoorTie.lean); close each card by the builder's one call (the guide's Derived/Test/ToyasCard.lean, 'card_holds'). Laid BY PROGRAM, IN A SANDBOX (cutbox-door.mjs). By AI agents, Wed Nov 11 2026. No macro, syntax, notation, axiom, sorry.
-/
import Derived.Test.YtiaihdfpbgnaoaaDoorRows
import GoSem.ClaimSeven
namespace Go.Proofs.YtiaihdfpbgnaoaaDoor
namespace Rows

/-- THE TIED CARD OF 'laws.FnExactTotalsText'. -/
def fnExactTotalsTextCard : Claim7 := { stood := { row := fnExactTotalsTextRow, standIns := [], harness := (true, "f07ae52c0cc04b235208aafc9a60102b6fa63e080a3f574920d7b23d81822f32"), looks := false }, kinds := [], alts := [], laidByText := true, laidKinds := [.data, .data, .data], laidTests := true, laidLooks := .later }
def FnExactTotalsTextCardSaid : Prop := Claim7.holds Tryd.pinned (.plain (OpenSpec.ofChange fnExactTotalsTextSpec)) fnExactTotalsTextCard

/-- THE TIED CARD OF 'laws.FnExactActsText'. -/
def fnExactActsTextCard : Claim7 := { stood := { row := fnExactActsTextRow, standIns := [], harness := (true, "f07ae52c0cc04b235208aafc9a60102b6fa63e080a3f574920d7b23d81822f32"), looks := false }, kinds := [], alts := [], laidByText := true, laidKinds := [.data, .data, .data], laidTests := true, laidLooks := .later }
def FnExactActsTextCardSaid : Prop := Claim7.holds Tryd.pinned (.plain (OpenSpec.ofChange fnExactActsTextSpec)) fnExactActsTextCard

/-- THE SECOND FORM's CARD OF 'laws.FnExactTotalsText'. -/
def fnExactTotalsTextUptoCard : Claim7 := { stood := { row := fnExactTotalsTextUptoRow, standIns := [], harness := (true, "f07ae52c0cc04b235208aafc9a60102b6fa63e080a3f574920d7b23d81822f32"), looks := false }, kinds := [], alts := [], laidByText := true, laidKinds := [.data, .data, .data], laidTests := true, laidLooks := .later }
def FnExactTotalsTextUptoCardSaid : Prop := Claim7.holds Tryd.pinned (.plain (OpenSpec.upto fnExactTotalsTextSpec)) fnExactTotalsTextUptoCard

/-- THE SECOND FORM's CARD OF 'laws.FnExactActsText'. -/
def fnExactActsTextUptoCard : Claim7 := { stood := { row := fnExactActsTextUptoRow, standIns := [], harness := (true, "f07ae52c0cc04b235208aafc9a60102b6fa63e080a3f574920d7b23d81822f32"), looks := false }, kinds := [], alts := [], laidByText := true, laidKinds := [.data, .data, .data], laidTests := true, laidLooks := .later }
def FnExactActsTextUptoCardSaid : Prop := Claim7.holds Tryd.pinned (.plain (OpenSpec.upto fnExactActsTextSpec)) fnExactActsTextUptoCard
end Rows
end Go.Proofs.YtiaihdfpbgnaoaaDoor
