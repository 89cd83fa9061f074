/-
  DERIVED. GIVEN WITH THE SEED: THE CARDS: each row of YtcaphjiiaclndaaGreatDoorRows.lean that lists a variable, with what it lists TIED to the program's text (the seventh form; the later family's looks); each row that meets fmt, with fmt's text TOLD by the authors' own Lean function (tested against real Go, not proved from fmt's source: count such statements apart). THE CARD IS WHAT COUNTS. Prove the row's statement (the work); the ties are given (YtcaphjiiaclndaaGreatDoorTie.lean); close each card by the builder's one call (the guide's Derived/Test/ToyasCard.lean, 'card_holds'). Laid BY PROGRAM, IN A SANDBOX (cutbox-door.mjs). By AI agents, Wed Nov 11 2026. No macro, syntax, notation, axiom, sorry.
-/
import Derived.Test.YtcaphjiiaclndaaGreatDoorRows
import GoSem.ClaimSeven
namespace Go.Proofs.YtcaphjiiaclndaaGreatDoor
namespace Rows

/-- THE TIED CARD OF 'aigrettetop.TopCovered'. -/
def topCoveredCard : Claim7 := { stood := { row := topCoveredRow, standIns := [], harness := (true, "1602aa06d439d57b5246969b9b32e90513f6890c9cc005b68668ec61bd536335"), looks := true }, kinds := [], alts := [], laidByText := true, laidKinds := [.data, .data], laidTests := true, laidLooks := .later }
def TopCoveredCardSaid : Prop := Claim7.holds Tryz.pinned (.plain (OpenSpec.ofChange topCoveredSpec)) topCoveredCard

/-- THE TIED CARD OF 'aigrettetop.TopDrawn'. -/
def topDrawnCard : Claim7 := { stood := { row := topDrawnRow, standIns := [], harness := (true, "1602aa06d439d57b5246969b9b32e90513f6890c9cc005b68668ec61bd536335"), looks := true }, kinds := [], alts := [], laidByText := true, laidKinds := [.data, .data, .data], laidTests := true, laidLooks := .later }
def TopDrawnCardSaid : Prop := Claim7.holds Tryz.pinned (.plain (OpenSpec.ofChange topDrawnSpec)) topDrawnCard

/-- THE SECOND FORM's CARD OF 'aigrettetop.TopCovered'. -/
def topCoveredUptoCard : Claim7 := { stood := { row := topCoveredUptoRow, standIns := [], harness := (true, "1602aa06d439d57b5246969b9b32e90513f6890c9cc005b68668ec61bd536335"), looks := true }, kinds := [], alts := [], laidByText := true, laidKinds := [.data, .data], laidTests := true, laidLooks := .later }
def TopCoveredUptoCardSaid : Prop := Claim7.holds Tryz.pinned (.plain (OpenSpec.upto topCoveredSpec)) topCoveredUptoCard

/-- THE SECOND FORM's CARD OF 'aigrettetop.TopDrawn'. -/
def topDrawnUptoCard : Claim7 := { stood := { row := topDrawnUptoRow, standIns := [], harness := (true, "1602aa06d439d57b5246969b9b32e90513f6890c9cc005b68668ec61bd536335"), looks := true }, kinds := [], alts := [], laidByText := true, laidKinds := [.data, .data, .data], laidTests := true, laidLooks := .later }
def TopDrawnUptoCardSaid : Prop := Claim7.holds Tryz.pinned (.plain (OpenSpec.upto topDrawnSpec)) topDrawnUptoCard
end Rows
end Go.Proofs.YtcaphjiiaclndaaGreatDoor
