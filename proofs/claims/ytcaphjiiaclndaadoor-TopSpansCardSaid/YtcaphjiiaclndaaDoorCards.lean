/-
  DERIVED. GIVEN WITH THE SEED: THE CARDS: each row of YtcaphjiiaclndaaDoorRows.lean that lists a variable, with what it lists TIED to the program's text (the seventh form; the later family's looks); each row that meets fmt, with fmt's text TOLD by the authors' own Lean function (tested against real Go, not proved from fmt's source: count such statements apart). THE CARD IS WHAT COUNTS. Prove the row's statement (the work); the ties are given (YtcaphjiiaclndaaDoorTie.lean); close each card by the builder's one call (the guide's Derived/Test/ToyasCard.lean, 'card_holds'). Laid BY PROGRAM, IN A SANDBOX (cutbox-door.mjs). By AI agents, Wed Nov 11 2026. No macro, syntax, notation, axiom, sorry.
-/
import Derived.Test.YtcaphjiiaclndaaDoorRows
import GoSem.ClaimSeven
namespace Go.Proofs.YtcaphjiiaclndaaDoor
namespace Rows

/-- THE TIED CARD OF 'aigrettetop.TopAlternates'. -/
def topAlternatesCard : Claim7 := { stood := { row := topAlternatesRow, standIns := [], harness := (true, "6bfaa934fbfffea32d74467aa840af3b37da15bfa0747900c132786a9b81fdc9"), looks := false }, kinds := [], alts := [], laidByText := true, laidKinds := [.data, .data, .data, .pinned], laidTests := true, laidLooks := .later }
def TopAlternatesCardSaid : Prop := Claim7.holds Tryd.pinned (.plain (OpenSpec.ofChange topAlternatesSpec)) topAlternatesCard

/-- THE TIED CARD OF 'aigrettetop.TopTakings'. -/
def topTakingsCard : Claim7 := { stood := { row := topTakingsRow, standIns := [], harness := (true, "6bfaa934fbfffea32d74467aa840af3b37da15bfa0747900c132786a9b81fdc9"), looks := false }, kinds := [], alts := [], laidByText := true, laidKinds := [.data, .data, .data, .pinned], laidTests := true, laidLooks := .later }
def TopTakingsCardSaid : Prop := Claim7.holds Tryd.pinned (.plain (OpenSpec.ofChange topTakingsSpec)) topTakingsCard

/-- THE TIED CARD OF 'aigrettetop.TopFano'. -/
def topFanoCard : Claim7 := { stood := { row := topFanoRow, standIns := [], harness := (true, "6bfaa934fbfffea32d74467aa840af3b37da15bfa0747900c132786a9b81fdc9"), looks := false }, kinds := [], alts := [], laidByText := true, laidKinds := [.data, .data], laidTests := true, laidLooks := .later }
def TopFanoCardSaid : Prop := Claim7.holds Tryd.pinned (.plain (OpenSpec.ofChange topFanoSpec)) topFanoCard

/-- THE TIED CARD OF 'aigrettetop.TopDilworth'. -/
def topDilworthCard : Claim7 := { stood := { row := topDilworthRow, standIns := [], harness := (true, "6bfaa934fbfffea32d74467aa840af3b37da15bfa0747900c132786a9b81fdc9"), looks := false }, kinds := [], alts := [], laidByText := true, laidKinds := [.data, .data], laidTests := true, laidLooks := .later }
def TopDilworthCardSaid : Prop := Claim7.holds Tryd.pinned (.plain (OpenSpec.ofChange topDilworthSpec)) topDilworthCard

/-- THE TIED CARD OF 'aigrettetop.TopSpans'. -/
def topSpansCard : Claim7 := { stood := { row := topSpansRow, standIns := [], harness := (true, "6bfaa934fbfffea32d74467aa840af3b37da15bfa0747900c132786a9b81fdc9"), looks := false }, kinds := [], alts := [], laidByText := true, laidKinds := [.data, .data], laidTests := true, laidLooks := .later }
def TopSpansCardSaid : Prop := Claim7.holds Tryd.pinned (.plain (OpenSpec.ofChange topSpansSpec)) topSpansCard

/-- THE TIED CARD OF 'aigrettetop.TopBunched'. -/
def topBunchedCard : Claim7 := { stood := { row := topBunchedRow, standIns := [], harness := (true, "6bfaa934fbfffea32d74467aa840af3b37da15bfa0747900c132786a9b81fdc9"), looks := false }, kinds := [], alts := [], laidByText := true, laidKinds := [.data, .data], laidTests := true, laidLooks := .later }
def TopBunchedCardSaid : Prop := Claim7.holds Tryd.pinned (.plain (OpenSpec.ofChange topBunchedSpec)) topBunchedCard

/-- THE SECOND FORM's CARD OF 'aigrettetop.TopAlternates'. -/
def topAlternatesUptoCard : Claim7 := { stood := { row := topAlternatesUptoRow, standIns := [], harness := (true, "6bfaa934fbfffea32d74467aa840af3b37da15bfa0747900c132786a9b81fdc9"), looks := false }, kinds := [], alts := [], laidByText := true, laidKinds := [.data, .data, .data, .pinned], laidTests := true, laidLooks := .later }
def TopAlternatesUptoCardSaid : Prop := Claim7.holds Tryd.pinned (.plain (OpenSpec.upto topAlternatesSpec)) topAlternatesUptoCard

/-- THE SECOND FORM's CARD OF 'aigrettetop.TopTakings'. -/
def topTakingsUptoCard : Claim7 := { stood := { row := topTakingsUptoRow, standIns := [], harness := (true, "6bfaa934fbfffea32d74467aa840af3b37da15bfa0747900c132786a9b81fdc9"), looks := false }, kinds := [], alts := [], laidByText := true, laidKinds := [.data, .data, .data, .pinned], laidTests := true, laidLooks := .later }
def TopTakingsUptoCardSaid : Prop := Claim7.holds Tryd.pinned (.plain (OpenSpec.upto topTakingsSpec)) topTakingsUptoCard

/-- THE SECOND FORM's CARD OF 'aigrettetop.TopFano'. -/
def topFanoUptoCard : Claim7 := { stood := { row := topFanoUptoRow, standIns := [], harness := (true, "6bfaa934fbfffea32d74467aa840af3b37da15bfa0747900c132786a9b81fdc9"), looks := false }, kinds := [], alts := [], laidByText := true, laidKinds := [.data, .data], laidTests := true, laidLooks := .later }
def TopFanoUptoCardSaid : Prop := Claim7.holds Tryd.pinned (.plain (OpenSpec.upto topFanoSpec)) topFanoUptoCard

/-- THE SECOND FORM's CARD OF 'aigrettetop.TopDilworth'. -/
def topDilworthUptoCard : Claim7 := { stood := { row := topDilworthUptoRow, standIns := [], harness := (true, "6bfaa934fbfffea32d74467aa840af3b37da15bfa0747900c132786a9b81fdc9"), looks := false }, kinds := [], alts := [], laidByText := true, laidKinds := [.data, .data], laidTests := true, laidLooks := .later }
def TopDilworthUptoCardSaid : Prop := Claim7.holds Tryd.pinned (.plain (OpenSpec.upto topDilworthSpec)) topDilworthUptoCard

/-- THE SECOND FORM's CARD OF 'aigrettetop.TopSpans'. -/
def topSpansUptoCard : Claim7 := { stood := { row := topSpansUptoRow, standIns := [], harness := (true, "6bfaa934fbfffea32d74467aa840af3b37da15bfa0747900c132786a9b81fdc9"), looks := false }, kinds := [], alts := [], laidByText := true, laidKinds := [.data, .data], laidTests := true, laidLooks := .later }
def TopSpansUptoCardSaid : Prop := Claim7.holds Tryd.pinned (.plain (OpenSpec.upto topSpansSpec)) topSpansUptoCard

/-- THE SECOND FORM's CARD OF 'aigrettetop.TopBunched'. -/
def topBunchedUptoCard : Claim7 := { stood := { row := topBunchedUptoRow, standIns := [], harness := (true, "6bfaa934fbfffea32d74467aa840af3b37da15bfa0747900c132786a9b81fdc9"), looks := false }, kinds := [], alts := [], laidByText := true, laidKinds := [.data, .data], laidTests := true, laidLooks := .later }
def TopBunchedUptoCardSaid : Prop := Claim7.holds Tryd.pinned (.plain (OpenSpec.upto topBunchedSpec)) topBunchedUptoCard
end Rows
end Go.Proofs.YtcaphjiiaclndaaDoor
