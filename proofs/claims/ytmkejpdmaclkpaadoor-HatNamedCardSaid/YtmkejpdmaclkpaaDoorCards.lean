/-
  DERIVED. GIVEN WITH THE SEED: THE CARDS: each row of YtmkejpdmaclkpaaDoorRows.lean that lists a variable, with what it lists TIED to the program's text (the seventh form; the later family's looks); each row that meets fmt, with fmt's text TOLD by the authors' own Lean function (tested against real Go, not proved from fmt's source: count such statements apart). THE CARD IS WHAT COUNTS. Prove the row's statement (the work); the ties are given (YtmkejpdmaclkpaaDoorTie.lean); close each card by the builder's one call (the guide's Derived/Test/ToyasCard.lean, 'card_holds'). Laid BY PROGRAM, IN A SANDBOX (cutbox-door.mjs). By AI agents, Wed Nov 11 2026. No macro, syntax, notation, axiom, sorry.
-/
import Derived.Test.YtmkejpdmaclkpaaDoorRows
import GoSem.ClaimSeven
namespace Go.Proofs.YtmkejpdmaclkpaaDoor
namespace Rows

/-- THE TIED CARD OF 'aigrettelaw10.HatCodes'. -/
def hatCodesCard : Claim7 := { stood := { row := hatCodesRow, standIns := [], harness := (true, "e02afe473d2d70fdfb1e3fe83f05b38b386a4b11f37bd3ddd060e08b1b70e6c1"), looks := false }, kinds := [], alts := [], laidByText := true, laidKinds := [.data, .data], laidTests := true, laidLooks := .later }
def HatCodesCardSaid : Prop := Claim7.holds Tryd.pinned (.plain (OpenSpec.ofChange hatCodesSpec)) hatCodesCard

/-- THE TIED CARD OF 'aigrettelaw10.HatPerfect'. -/
def hatPerfectCard : Claim7 := { stood := { row := hatPerfectRow, standIns := [], harness := (true, "e02afe473d2d70fdfb1e3fe83f05b38b386a4b11f37bd3ddd060e08b1b70e6c1"), looks := false }, kinds := [], alts := [], laidByText := true, laidKinds := [.data, .data], laidTests := true, laidLooks := .later }
def HatPerfectCardSaid : Prop := Claim7.holds Tryd.pinned (.plain (OpenSpec.ofChange hatPerfectSpec)) hatPerfectCard

/-- THE TIED CARD OF 'aigrettelaw10.HatLost'. -/
def hatLostCard : Claim7 := { stood := { row := hatLostRow, standIns := [], harness := (true, "e02afe473d2d70fdfb1e3fe83f05b38b386a4b11f37bd3ddd060e08b1b70e6c1"), looks := false }, kinds := [], alts := [], laidByText := true, laidKinds := [.data, .data], laidTests := true, laidLooks := .later }
def HatLostCardSaid : Prop := Claim7.holds Tryd.pinned (.plain (OpenSpec.ofChange hatLostSpec)) hatLostCard

/-- THE TIED CARD OF 'aigrettelaw10.HatRight'. -/
def hatRightCard : Claim7 := { stood := { row := hatRightRow, standIns := [], harness := (true, "e02afe473d2d70fdfb1e3fe83f05b38b386a4b11f37bd3ddd060e08b1b70e6c1"), looks := false }, kinds := [], alts := [], laidByText := true, laidKinds := [.data, .data], laidTests := true, laidLooks := .later }
def HatRightCardSaid : Prop := Claim7.holds Tryd.pinned (.plain (OpenSpec.ofChange hatRightSpec)) hatRightCard

/-- THE TIED CARD OF 'aigrettelaw10.HatHamming'. -/
def hatHammingCard : Claim7 := { stood := { row := hatHammingRow, standIns := [], harness := (true, "e02afe473d2d70fdfb1e3fe83f05b38b386a4b11f37bd3ddd060e08b1b70e6c1"), looks := false }, kinds := [], alts := [], laidByText := true, laidKinds := [.data, .data], laidTests := true, laidLooks := .later }
def HatHammingCardSaid : Prop := Claim7.holds Tryd.pinned (.plain (OpenSpec.ofChange hatHammingSpec)) hatHammingCard

/-- THE TIED CARD OF 'aigrettelaw10.HatMore'. -/
def hatMoreCard : Claim7 := { stood := { row := hatMoreRow, standIns := [], harness := (true, "e02afe473d2d70fdfb1e3fe83f05b38b386a4b11f37bd3ddd060e08b1b70e6c1"), looks := false }, kinds := [], alts := [], laidByText := true, laidKinds := [.data, .data], laidTests := true, laidLooks := .later }
def HatMoreCardSaid : Prop := Claim7.holds Tryd.pinned (.plain (OpenSpec.ofChange hatMoreSpec)) hatMoreCard

/-- THE TIED CARD OF 'aigrettelaw10.HatPlays'. -/
def hatPlaysCard : Claim7 := { stood := { row := hatPlaysRow, standIns := [], harness := (true, "e02afe473d2d70fdfb1e3fe83f05b38b386a4b11f37bd3ddd060e08b1b70e6c1"), looks := false }, kinds := [], alts := [], laidByText := true, laidKinds := [.data, .data], laidTests := true, laidLooks := .later }
def HatPlaysCardSaid : Prop := Claim7.holds Tryd.pinned (.plain (OpenSpec.ofChange hatPlaysSpec)) hatPlaysCard

/-- THE TIED CARD OF 'aigrettelaw10.HatKnown'. -/
def hatKnownCard : Claim7 := { stood := { row := hatKnownRow, standIns := [], harness := (true, "e02afe473d2d70fdfb1e3fe83f05b38b386a4b11f37bd3ddd060e08b1b70e6c1"), looks := false }, kinds := [], alts := [], laidByText := true, laidKinds := [.data, .data], laidTests := true, laidLooks := .later }
def HatKnownCardSaid : Prop := Claim7.holds Tryd.pinned (.plain (OpenSpec.ofChange hatKnownSpec)) hatKnownCard

/-- THE TIED CARD OF 'aigrettelaw10.HatCover'. -/
def hatCoverCard : Claim7 := { stood := { row := hatCoverRow, standIns := [], harness := (true, "e02afe473d2d70fdfb1e3fe83f05b38b386a4b11f37bd3ddd060e08b1b70e6c1"), looks := false }, kinds := [], alts := [], laidByText := true, laidKinds := [.data, .data], laidTests := true, laidLooks := .later }
def HatCoverCardSaid : Prop := Claim7.holds Tryd.pinned (.plain (OpenSpec.ofChange hatCoverSpec)) hatCoverCard

/-- THE TIED CARD OF 'aigrettelaw10.HatSmallest'. -/
def hatSmallestCard : Claim7 := { stood := { row := hatSmallestRow, standIns := [], harness := (true, "e02afe473d2d70fdfb1e3fe83f05b38b386a4b11f37bd3ddd060e08b1b70e6c1"), looks := false }, kinds := [], alts := [], laidByText := true, laidKinds := [.data, .data], laidTests := true, laidLooks := .later }
def HatSmallestCardSaid : Prop := Claim7.holds Tryd.pinned (.plain (OpenSpec.ofChange hatSmallestSpec)) hatSmallestCard

/-- THE TIED CARD OF 'aigrettelaw10.HatNamed'. -/
def hatNamedCard : Claim7 := { stood := { row := hatNamedRow, standIns := [], harness := (true, "e02afe473d2d70fdfb1e3fe83f05b38b386a4b11f37bd3ddd060e08b1b70e6c1"), looks := false }, kinds := [], alts := [], laidByText := true, laidKinds := [.data, .data], laidTests := true, laidLooks := .later }
def HatNamedCardSaid : Prop := Claim7.holds Tryd.pinned (.plain (OpenSpec.ofChange hatNamedSpec)) hatNamedCard

/-- THE SECOND FORM's CARD OF 'aigrettelaw10.HatCodes'. -/
def hatCodesUptoCard : Claim7 := { stood := { row := hatCodesUptoRow, standIns := [], harness := (true, "e02afe473d2d70fdfb1e3fe83f05b38b386a4b11f37bd3ddd060e08b1b70e6c1"), looks := false }, kinds := [], alts := [], laidByText := true, laidKinds := [.data, .data], laidTests := true, laidLooks := .later }
def HatCodesUptoCardSaid : Prop := Claim7.holds Tryd.pinned (.plain (OpenSpec.upto hatCodesSpec)) hatCodesUptoCard

/-- THE SECOND FORM's CARD OF 'aigrettelaw10.HatPerfect'. -/
def hatPerfectUptoCard : Claim7 := { stood := { row := hatPerfectUptoRow, standIns := [], harness := (true, "e02afe473d2d70fdfb1e3fe83f05b38b386a4b11f37bd3ddd060e08b1b70e6c1"), looks := false }, kinds := [], alts := [], laidByText := true, laidKinds := [.data, .data], laidTests := true, laidLooks := .later }
def HatPerfectUptoCardSaid : Prop := Claim7.holds Tryd.pinned (.plain (OpenSpec.upto hatPerfectSpec)) hatPerfectUptoCard

/-- THE SECOND FORM's CARD OF 'aigrettelaw10.HatLost'. -/
def hatLostUptoCard : Claim7 := { stood := { row := hatLostUptoRow, standIns := [], harness := (true, "e02afe473d2d70fdfb1e3fe83f05b38b386a4b11f37bd3ddd060e08b1b70e6c1"), looks := false }, kinds := [], alts := [], laidByText := true, laidKinds := [.data, .data], laidTests := true, laidLooks := .later }
def HatLostUptoCardSaid : Prop := Claim7.holds Tryd.pinned (.plain (OpenSpec.upto hatLostSpec)) hatLostUptoCard

/-- THE SECOND FORM's CARD OF 'aigrettelaw10.HatRight'. -/
def hatRightUptoCard : Claim7 := { stood := { row := hatRightUptoRow, standIns := [], harness := (true, "e02afe473d2d70fdfb1e3fe83f05b38b386a4b11f37bd3ddd060e08b1b70e6c1"), looks := false }, kinds := [], alts := [], laidByText := true, laidKinds := [.data, .data], laidTests := true, laidLooks := .later }
def HatRightUptoCardSaid : Prop := Claim7.holds Tryd.pinned (.plain (OpenSpec.upto hatRightSpec)) hatRightUptoCard

/-- THE SECOND FORM's CARD OF 'aigrettelaw10.HatHamming'. -/
def hatHammingUptoCard : Claim7 := { stood := { row := hatHammingUptoRow, standIns := [], harness := (true, "e02afe473d2d70fdfb1e3fe83f05b38b386a4b11f37bd3ddd060e08b1b70e6c1"), looks := false }, kinds := [], alts := [], laidByText := true, laidKinds := [.data, .data], laidTests := true, laidLooks := .later }
def HatHammingUptoCardSaid : Prop := Claim7.holds Tryd.pinned (.plain (OpenSpec.upto hatHammingSpec)) hatHammingUptoCard

/-- THE SECOND FORM's CARD OF 'aigrettelaw10.HatMore'. -/
def hatMoreUptoCard : Claim7 := { stood := { row := hatMoreUptoRow, standIns := [], harness := (true, "e02afe473d2d70fdfb1e3fe83f05b38b386a4b11f37bd3ddd060e08b1b70e6c1"), looks := false }, kinds := [], alts := [], laidByText := true, laidKinds := [.data, .data], laidTests := true, laidLooks := .later }
def HatMoreUptoCardSaid : Prop := Claim7.holds Tryd.pinned (.plain (OpenSpec.upto hatMoreSpec)) hatMoreUptoCard

/-- THE SECOND FORM's CARD OF 'aigrettelaw10.HatPlays'. -/
def hatPlaysUptoCard : Claim7 := { stood := { row := hatPlaysUptoRow, standIns := [], harness := (true, "e02afe473d2d70fdfb1e3fe83f05b38b386a4b11f37bd3ddd060e08b1b70e6c1"), looks := false }, kinds := [], alts := [], laidByText := true, laidKinds := [.data, .data], laidTests := true, laidLooks := .later }
def HatPlaysUptoCardSaid : Prop := Claim7.holds Tryd.pinned (.plain (OpenSpec.upto hatPlaysSpec)) hatPlaysUptoCard

/-- THE SECOND FORM's CARD OF 'aigrettelaw10.HatKnown'. -/
def hatKnownUptoCard : Claim7 := { stood := { row := hatKnownUptoRow, standIns := [], harness := (true, "e02afe473d2d70fdfb1e3fe83f05b38b386a4b11f37bd3ddd060e08b1b70e6c1"), looks := false }, kinds := [], alts := [], laidByText := true, laidKinds := [.data, .data], laidTests := true, laidLooks := .later }
def HatKnownUptoCardSaid : Prop := Claim7.holds Tryd.pinned (.plain (OpenSpec.upto hatKnownSpec)) hatKnownUptoCard

/-- THE SECOND FORM's CARD OF 'aigrettelaw10.HatCover'. -/
def hatCoverUptoCard : Claim7 := { stood := { row := hatCoverUptoRow, standIns := [], harness := (true, "e02afe473d2d70fdfb1e3fe83f05b38b386a4b11f37bd3ddd060e08b1b70e6c1"), looks := false }, kinds := [], alts := [], laidByText := true, laidKinds := [.data, .data], laidTests := true, laidLooks := .later }
def HatCoverUptoCardSaid : Prop := Claim7.holds Tryd.pinned (.plain (OpenSpec.upto hatCoverSpec)) hatCoverUptoCard

/-- THE SECOND FORM's CARD OF 'aigrettelaw10.HatSmallest'. -/
def hatSmallestUptoCard : Claim7 := { stood := { row := hatSmallestUptoRow, standIns := [], harness := (true, "e02afe473d2d70fdfb1e3fe83f05b38b386a4b11f37bd3ddd060e08b1b70e6c1"), looks := false }, kinds := [], alts := [], laidByText := true, laidKinds := [.data, .data], laidTests := true, laidLooks := .later }
def HatSmallestUptoCardSaid : Prop := Claim7.holds Tryd.pinned (.plain (OpenSpec.upto hatSmallestSpec)) hatSmallestUptoCard

/-- THE SECOND FORM's CARD OF 'aigrettelaw10.HatNamed'. -/
def hatNamedUptoCard : Claim7 := { stood := { row := hatNamedUptoRow, standIns := [], harness := (true, "e02afe473d2d70fdfb1e3fe83f05b38b386a4b11f37bd3ddd060e08b1b70e6c1"), looks := false }, kinds := [], alts := [], laidByText := true, laidKinds := [.data, .data], laidTests := true, laidLooks := .later }
def HatNamedUptoCardSaid : Prop := Claim7.holds Tryd.pinned (.plain (OpenSpec.upto hatNamedSpec)) hatNamedUptoCard
end Rows
end Go.Proofs.YtmkejpdmaclkpaaDoor
