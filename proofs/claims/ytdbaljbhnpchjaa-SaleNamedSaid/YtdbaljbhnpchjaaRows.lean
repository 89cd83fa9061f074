/-
  No cell of these rows narrows 'for every input' (looked for: loops, veiled, ifaces, maps, wideKeys, modest, calm, conditions, laid).
  DERIVED. THE GIVEN ROWS OF THIS SEAT. 12 by the template 'for every input the law returns true; each argument reads behind the call as it read before'; 0 by the template 'total and deterministic' (their statements: YtdbaljbhnpchjaaTotals.lean).
  GIVEN WITH THE SEED: the statements are not yours to turn. If you find one false, say at which input.
  Laid BY PROGRAM, IN A SANDBOX (cutbox-rows.mjs): the forced cells as the released guide's own fill.sh prints them over the translation d819d80ffbf1233c… (all of the seat's roots in one cut). By AI agents, Wed Nov 11 2026. No macro, syntax, notation, axiom, sorry.
-/
import Derived.Test.YtdbaljbhnpchjaaChecked
import GoSem.Claim
import GoSem.ClaimJoined
import GoSem.ClaimMapViews
import Derived.JoinedTies
import Derived.KernelRfl
namespace Go.Proofs.Ytdbaljbhnpchjaa
/- THE CELL 'sum', in the pinned program and in every row, IS THE sha256 OF THE DUMP (.gsa) THAT YtdbaljbhnpchjaaProg.lean LOADS. Nothing in Lean hashes anything: it is a label: what it is worth is what the hold of that sum in a sandbox is worth. -/
noncomputable def Try.pinned : Pinned := { name := "ytdbaljbhnpchjaa", sum := "d819d80ffbf1233c528a7d5a7579f1c12c0f1ecbd649332d6d7c009026c73093", checked := Try.checked }
namespace Rows
def none {H : Type} : Left H := { results := [], args := [] }

/-- 'aigrettelaw06.SaleDivisions': WHATEVER THE INPUT: true; the input reads as it did. -/
def saleDivisionsSpec : ChangeSpec := { name := "saleDivisions", fn := fun _ => fun
  | [d1, d2] => { results := [.lit (.bool true)], args := [d1, d2] }
  | _ => none }
def saleDivisionsRow : OpenClaim := { program := "ytdbaljbhnpchjaa", sum := "d819d80ffbf1233c528a7d5a7579f1c12c0f1ecbd649332d6d7c009026c73093", func := "aigrette/aigrettelaw06.SaleDivisions", spec := "saleDivisions", unfollowed := true, recurses := true, plainKeys := false, apart := false }
def SaleDivisionsSaid : Prop := saleDivisionsRow.holds Try.pinned (OpenSpec.ofChange saleDivisionsSpec)

/-- ITS FALSE NEIGHBOUR: 'it returns false'. Refute it at one input. -/
def saleDivisionsWrong : ChangeSpec := { name := "saleDivisions", fn := fun _ => fun
  | [d1, d2] => { results := [.lit (.bool false)], args := [d1, d2] }
  | _ => none }
def SaleDivisionsWrongFalsely : Prop := saleDivisionsRow.holds Try.pinned (OpenSpec.ofChange saleDivisionsWrong)

/-- 'aigrettelaw06.SalePays': WHATEVER THE INPUT: true; the input reads as it did. -/
def salePaysSpec : ChangeSpec := { name := "salePays", fn := fun _ => fun
  | [d1, d2, d3] => { results := [.lit (.bool true)], args := [d1, d2, d3] }
  | _ => none }
def salePaysRow : OpenClaim := { program := "ytdbaljbhnpchjaa", sum := "d819d80ffbf1233c528a7d5a7579f1c12c0f1ecbd649332d6d7c009026c73093", func := "aigrette/aigrettelaw06.SalePays", spec := "salePays", unfollowed := true, recurses := true, plainKeys := false, apart := false }
def SalePaysSaid : Prop := salePaysRow.holds Try.pinned (OpenSpec.ofChange salePaysSpec)

/-- ITS FALSE NEIGHBOUR: 'it returns false'. Refute it at one input. -/
def salePaysWrong : ChangeSpec := { name := "salePays", fn := fun _ => fun
  | [d1, d2, d3] => { results := [.lit (.bool false)], args := [d1, d2, d3] }
  | _ => none }
def SalePaysWrongFalsely : Prop := salePaysRow.holds Try.pinned (OpenSpec.ofChange salePaysWrong)

/-- 'aigrettelaw06.SaleWanted': WHATEVER THE INPUT: true; the input reads as it did. -/
def saleWantedSpec : ChangeSpec := { name := "saleWanted", fn := fun _ => fun
  | [d1, d2, d3] => { results := [.lit (.bool true)], args := [d1, d2, d3] }
  | _ => none }
def saleWantedRow : OpenClaim := { program := "ytdbaljbhnpchjaa", sum := "d819d80ffbf1233c528a7d5a7579f1c12c0f1ecbd649332d6d7c009026c73093", func := "aigrette/aigrettelaw06.SaleWanted", spec := "saleWanted", unfollowed := true, recurses := true, plainKeys := false, apart := false }
def SaleWantedSaid : Prop := saleWantedRow.holds Try.pinned (OpenSpec.ofChange saleWantedSpec)

/-- ITS FALSE NEIGHBOUR: 'it returns false'. Refute it at one input. -/
def saleWantedWrong : ChangeSpec := { name := "saleWanted", fn := fun _ => fun
  | [d1, d2, d3] => { results := [.lit (.bool false)], args := [d1, d2, d3] }
  | _ => none }
def SaleWantedWrongFalsely : Prop := saleWantedRow.holds Try.pinned (OpenSpec.ofChange saleWantedWrong)

/-- 'aigrettelaw06.SaleLowest': WHATEVER THE INPUT: true; the input reads as it did. -/
def saleLowestSpec : ChangeSpec := { name := "saleLowest", fn := fun _ => fun
  | [d] => { results := [.lit (.bool true)], args := [d] }
  | _ => none }
def saleLowestRow : OpenClaim := { program := "ytdbaljbhnpchjaa", sum := "d819d80ffbf1233c528a7d5a7579f1c12c0f1ecbd649332d6d7c009026c73093", func := "aigrette/aigrettelaw06.SaleLowest", spec := "saleLowest", unfollowed := true, recurses := true, plainKeys := false, apart := false }
def SaleLowestSaid : Prop := saleLowestRow.holds Try.pinned (OpenSpec.ofChange saleLowestSpec)

/-- ITS FALSE NEIGHBOUR: 'it returns false'. Refute it at one input. -/
def saleLowestWrong : ChangeSpec := { name := "saleLowest", fn := fun _ => fun
  | [d] => { results := [.lit (.bool false)], args := [d] }
  | _ => none }
def SaleLowestWrongFalsely : Prop := saleLowestRow.holds Try.pinned (OpenSpec.ofChange saleLowestWrong)

/-- 'aigrettelaw06.SaleLeonard': WHATEVER THE INPUT: true; the input reads as it did. -/
def saleLeonardSpec : ChangeSpec := { name := "saleLeonard", fn := fun _ => fun
  | [d] => { results := [.lit (.bool true)], args := [d] }
  | _ => none }
def saleLeonardRow : OpenClaim := { program := "ytdbaljbhnpchjaa", sum := "d819d80ffbf1233c528a7d5a7579f1c12c0f1ecbd649332d6d7c009026c73093", func := "aigrette/aigrettelaw06.SaleLeonard", spec := "saleLeonard", unfollowed := true, recurses := true, plainKeys := false, apart := false }
def SaleLeonardSaid : Prop := saleLeonardRow.holds Try.pinned (OpenSpec.ofChange saleLeonardSpec)

/-- ITS FALSE NEIGHBOUR: 'it returns false'. Refute it at one input. -/
def saleLeonardWrong : ChangeSpec := { name := "saleLeonard", fn := fun _ => fun
  | [d] => { results := [.lit (.bool false)], args := [d] }
  | _ => none }
def SaleLeonardWrongFalsely : Prop := saleLeonardRow.holds Try.pinned (OpenSpec.ofChange saleLeonardWrong)

/-- 'aigrettelaw06.SaleNamed': WHATEVER THE INPUT: true; the input reads as it did. -/
def saleNamedSpec : ChangeSpec := { name := "saleNamed", fn := fun _ => fun
  | [d1, d2, d3] => { results := [.lit (.bool true)], args := [d1, d2, d3] }
  | _ => none }
def saleNamedRow : OpenClaim := { program := "ytdbaljbhnpchjaa", sum := "d819d80ffbf1233c528a7d5a7579f1c12c0f1ecbd649332d6d7c009026c73093", func := "aigrette/aigrettelaw06.SaleNamed", spec := "saleNamed", unfollowed := true, recurses := true, plainKeys := false, apart := false }
def SaleNamedSaid : Prop := saleNamedRow.holds Try.pinned (OpenSpec.ofChange saleNamedSpec)

/-- ITS FALSE NEIGHBOUR: 'it returns false'. Refute it at one input. -/
def saleNamedWrong : ChangeSpec := { name := "saleNamed", fn := fun _ => fun
  | [d1, d2, d3] => { results := [.lit (.bool false)], args := [d1, d2, d3] }
  | _ => none }
def SaleNamedWrongFalsely : Prop := saleNamedRow.holds Try.pinned (OpenSpec.ofChange saleNamedWrong)

/-- 'aigrettelaw06.SaleKnown': WHATEVER THE INPUT: true; the input reads as it did. -/
def saleKnownSpec : ChangeSpec := { name := "saleKnown", fn := fun _ => fun
  | [] => { results := [.lit (.bool true)], args := [] }
  | _ => none }
def saleKnownRow : OpenClaim := { program := "ytdbaljbhnpchjaa", sum := "d819d80ffbf1233c528a7d5a7579f1c12c0f1ecbd649332d6d7c009026c73093", func := "aigrette/aigrettelaw06.SaleKnown", spec := "saleKnown", unfollowed := true, recurses := true, plainKeys := false, apart := false }
def SaleKnownSaid : Prop := saleKnownRow.holds Try.pinned (OpenSpec.ofChange saleKnownSpec)

/-- ITS FALSE NEIGHBOUR: 'it returns false'. Refute it at one input. -/
def saleKnownWrong : ChangeSpec := { name := "saleKnown", fn := fun _ => fun
  | [] => { results := [.lit (.bool false)], args := [] }
  | _ => none }
def SaleKnownWrongFalsely : Prop := saleKnownRow.holds Try.pinned (OpenSpec.ofChange saleKnownWrong)

/-- 'aigrettelaw06.SaleTruth': WHATEVER THE INPUT: true; the input reads as it did. -/
def saleTruthSpec : ChangeSpec := { name := "saleTruth", fn := fun _ => fun
  | [d1, d2] => { results := [.lit (.bool true)], args := [d1, d2] }
  | _ => none }
def saleTruthRow : OpenClaim := { program := "ytdbaljbhnpchjaa", sum := "d819d80ffbf1233c528a7d5a7579f1c12c0f1ecbd649332d6d7c009026c73093", func := "aigrette/aigrettelaw06.SaleTruth", spec := "saleTruth", unfollowed := true, recurses := true, plainKeys := false, apart := false }
def SaleTruthSaid : Prop := saleTruthRow.holds Try.pinned (OpenSpec.ofChange saleTruthSpec)

/-- ITS FALSE NEIGHBOUR: 'it returns false'. Refute it at one input. -/
def saleTruthWrong : ChangeSpec := { name := "saleTruth", fn := fun _ => fun
  | [d1, d2] => { results := [.lit (.bool false)], args := [d1, d2] }
  | _ => none }
def SaleTruthWrongFalsely : Prop := saleTruthRow.holds Try.pinned (OpenSpec.ofChange saleTruthWrong)

/-- 'aigrettelaw06.SaleDivided': WHATEVER THE INPUT: true; the input reads as it did. -/
def saleDividedSpec : ChangeSpec := { name := "saleDivided", fn := fun _ => fun
  | [d1, d2] => { results := [.lit (.bool true)], args := [d1, d2] }
  | _ => none }
def saleDividedRow : OpenClaim := { program := "ytdbaljbhnpchjaa", sum := "d819d80ffbf1233c528a7d5a7579f1c12c0f1ecbd649332d6d7c009026c73093", func := "aigrette/aigrettelaw06.SaleDivided", spec := "saleDivided", unfollowed := true, recurses := true, plainKeys := false, apart := false }
def SaleDividedSaid : Prop := saleDividedRow.holds Try.pinned (OpenSpec.ofChange saleDividedSpec)

/-- ITS FALSE NEIGHBOUR: 'it returns false'. Refute it at one input. -/
def saleDividedWrong : ChangeSpec := { name := "saleDivided", fn := fun _ => fun
  | [d1, d2] => { results := [.lit (.bool false)], args := [d1, d2] }
  | _ => none }
def SaleDividedWrongFalsely : Prop := saleDividedRow.holds Try.pinned (OpenSpec.ofChange saleDividedWrong)

/-- 'aigrettelaw06.SaleHall': WHATEVER THE INPUT: true; the input reads as it did. -/
def saleHallSpec : ChangeSpec := { name := "saleHall", fn := fun _ => fun
  | [d1, d2] => { results := [.lit (.bool true)], args := [d1, d2] }
  | _ => none }
def saleHallRow : OpenClaim := { program := "ytdbaljbhnpchjaa", sum := "d819d80ffbf1233c528a7d5a7579f1c12c0f1ecbd649332d6d7c009026c73093", func := "aigrette/aigrettelaw06.SaleHall", spec := "saleHall", unfollowed := true, recurses := true, plainKeys := false, apart := false }
def SaleHallSaid : Prop := saleHallRow.holds Try.pinned (OpenSpec.ofChange saleHallSpec)

/-- ITS FALSE NEIGHBOUR: 'it returns false'. Refute it at one input. -/
def saleHallWrong : ChangeSpec := { name := "saleHall", fn := fun _ => fun
  | [d1, d2] => { results := [.lit (.bool false)], args := [d1, d2] }
  | _ => none }
def SaleHallWrongFalsely : Prop := saleHallRow.holds Try.pinned (OpenSpec.ofChange saleHallWrong)

/-- 'aigrettelaw06.SaleMore': WHATEVER THE INPUT: true; the input reads as it did. -/
def saleMoreSpec : ChangeSpec := { name := "saleMore", fn := fun _ => fun
  | [d1, d2] => { results := [.lit (.bool true)], args := [d1, d2] }
  | _ => none }
def saleMoreRow : OpenClaim := { program := "ytdbaljbhnpchjaa", sum := "d819d80ffbf1233c528a7d5a7579f1c12c0f1ecbd649332d6d7c009026c73093", func := "aigrette/aigrettelaw06.SaleMore", spec := "saleMore", unfollowed := true, recurses := true, plainKeys := false, apart := false }
def SaleMoreSaid : Prop := saleMoreRow.holds Try.pinned (OpenSpec.ofChange saleMoreSpec)

/-- ITS FALSE NEIGHBOUR: 'it returns false'. Refute it at one input. -/
def saleMoreWrong : ChangeSpec := { name := "saleMore", fn := fun _ => fun
  | [d1, d2] => { results := [.lit (.bool false)], args := [d1, d2] }
  | _ => none }
def SaleMoreWrongFalsely : Prop := saleMoreRow.holds Try.pinned (OpenSpec.ofChange saleMoreWrong)

/-- 'aigrettelaw06.SalePrices': WHATEVER THE INPUT: true; the input reads as it did. -/
def salePricesSpec : ChangeSpec := { name := "salePrices", fn := fun _ => fun
  | [d] => { results := [.lit (.bool true)], args := [d] }
  | _ => none }
def salePricesRow : OpenClaim := { program := "ytdbaljbhnpchjaa", sum := "d819d80ffbf1233c528a7d5a7579f1c12c0f1ecbd649332d6d7c009026c73093", func := "aigrette/aigrettelaw06.SalePrices", spec := "salePrices", unfollowed := true, recurses := true, plainKeys := false, apart := false }
def SalePricesSaid : Prop := salePricesRow.holds Try.pinned (OpenSpec.ofChange salePricesSpec)

/-- ITS FALSE NEIGHBOUR: 'it returns false'. Refute it at one input. -/
def salePricesWrong : ChangeSpec := { name := "salePrices", fn := fun _ => fun
  | [d] => { results := [.lit (.bool false)], args := [d] }
  | _ => none }
def SalePricesWrongFalsely : Prop := salePricesRow.holds Try.pinned (OpenSpec.ofChange salePricesWrong)

/- THE SECOND FORM. 'bulk': how many values and letters a reading holds, each counted each time it is reached (what is shared counts as often as it is met; a slice's spare places count too). A statement '..UptoSaid' is the law's where the arguments, and the package variables that the reading takes, are together of bulk at most 1048576: NARROWER than '..Said'. Prove '..Said' where nothing that the law and all that it calls make is longer than what came in: it says more and counts as full. Else prove '..UptoSaid'. A law counts once. -/
mutual
def uptoBulk {H : Type} : DataW H → Nat
  | .lit (.string bytes) => bytes.length + 1
  | .lit _ => 1
  | .nil => 1
  | .ptr d => uptoBulk d + 1
  | .slice elems spare => uptoBulkAll elems + uptoBulkAll spare + 1
  | .agg parts => uptoBulkAll parts + 1
  | .iface _ d => uptoBulk d + 1
  | .map entries => uptoBulkEntries entries + 1
  | .held _ => 1
def uptoBulkAll {H : Type} : List (DataW H) → Nat
  | [] => 0
  | d :: r => uptoBulk d + uptoBulkAll r
def uptoBulkEntries {H : Type} : List (Lit × DataW H) → Nat
  | [] => 0
  | x :: r => uptoBulkEntry x + uptoBulkEntries r
def uptoBulkEntry {H : Type} : Lit × DataW H → Nat
  | (.string bytes, d) => bytes.length + uptoBulk d + 1
  | (_, d) => uptoBulk d + 1
 end
def uptoSmall : (H : Type) → List (DataW H) → Bool := fun _ ds => decide (uptoBulkAll ds ≤ 1048576)
def OpenSpec.upto (s : _root_.Go.ChangeSpec) : _root_.Go.OpenSpec := { _root_.Go.OpenSpec.ofChange s with cond := some uptoSmall }

/-- 'aigrettelaw06.SaleDivisions', WHERE WHAT IT READS IS OF BULK AT MOST 1048576: true; the input reads as it did. -/
def saleDivisionsUptoRow : OpenClaim := { program := "ytdbaljbhnpchjaa", sum := "d819d80ffbf1233c528a7d5a7579f1c12c0f1ecbd649332d6d7c009026c73093", func := "aigrette/aigrettelaw06.SaleDivisions", spec := "saleDivisions", unfollowed := true, recurses := true, plainKeys := false, apart := false, narrowed := true }
def SaleDivisionsUptoSaid : Prop := saleDivisionsUptoRow.holds Try.pinned (OpenSpec.upto saleDivisionsSpec)

/-- 'aigrettelaw06.SalePays', WHERE WHAT IT READS IS OF BULK AT MOST 1048576: true; the input reads as it did. -/
def salePaysUptoRow : OpenClaim := { program := "ytdbaljbhnpchjaa", sum := "d819d80ffbf1233c528a7d5a7579f1c12c0f1ecbd649332d6d7c009026c73093", func := "aigrette/aigrettelaw06.SalePays", spec := "salePays", unfollowed := true, recurses := true, plainKeys := false, apart := false, narrowed := true }
def SalePaysUptoSaid : Prop := salePaysUptoRow.holds Try.pinned (OpenSpec.upto salePaysSpec)

/-- 'aigrettelaw06.SaleWanted', WHERE WHAT IT READS IS OF BULK AT MOST 1048576: true; the input reads as it did. -/
def saleWantedUptoRow : OpenClaim := { program := "ytdbaljbhnpchjaa", sum := "d819d80ffbf1233c528a7d5a7579f1c12c0f1ecbd649332d6d7c009026c73093", func := "aigrette/aigrettelaw06.SaleWanted", spec := "saleWanted", unfollowed := true, recurses := true, plainKeys := false, apart := false, narrowed := true }
def SaleWantedUptoSaid : Prop := saleWantedUptoRow.holds Try.pinned (OpenSpec.upto saleWantedSpec)

/-- 'aigrettelaw06.SaleLowest', WHERE WHAT IT READS IS OF BULK AT MOST 1048576: true; the input reads as it did. -/
def saleLowestUptoRow : OpenClaim := { program := "ytdbaljbhnpchjaa", sum := "d819d80ffbf1233c528a7d5a7579f1c12c0f1ecbd649332d6d7c009026c73093", func := "aigrette/aigrettelaw06.SaleLowest", spec := "saleLowest", unfollowed := true, recurses := true, plainKeys := false, apart := false, narrowed := true }
def SaleLowestUptoSaid : Prop := saleLowestUptoRow.holds Try.pinned (OpenSpec.upto saleLowestSpec)

/-- 'aigrettelaw06.SaleLeonard', WHERE WHAT IT READS IS OF BULK AT MOST 1048576: true; the input reads as it did. -/
def saleLeonardUptoRow : OpenClaim := { program := "ytdbaljbhnpchjaa", sum := "d819d80ffbf1233c528a7d5a7579f1c12c0f1ecbd649332d6d7c009026c73093", func := "aigrette/aigrettelaw06.SaleLeonard", spec := "saleLeonard", unfollowed := true, recurses := true, plainKeys := false, apart := false, narrowed := true }
def SaleLeonardUptoSaid : Prop := saleLeonardUptoRow.holds Try.pinned (OpenSpec.upto saleLeonardSpec)

/-- 'aigrettelaw06.SaleNamed', WHERE WHAT IT READS IS OF BULK AT MOST 1048576: true; the input reads as it did. -/
def saleNamedUptoRow : OpenClaim := { program := "ytdbaljbhnpchjaa", sum := "d819d80ffbf1233c528a7d5a7579f1c12c0f1ecbd649332d6d7c009026c73093", func := "aigrette/aigrettelaw06.SaleNamed", spec := "saleNamed", unfollowed := true, recurses := true, plainKeys := false, apart := false, narrowed := true }
def SaleNamedUptoSaid : Prop := saleNamedUptoRow.holds Try.pinned (OpenSpec.upto saleNamedSpec)

/-- 'aigrettelaw06.SaleKnown', WHERE WHAT IT READS IS OF BULK AT MOST 1048576: true; the input reads as it did. -/
def saleKnownUptoRow : OpenClaim := { program := "ytdbaljbhnpchjaa", sum := "d819d80ffbf1233c528a7d5a7579f1c12c0f1ecbd649332d6d7c009026c73093", func := "aigrette/aigrettelaw06.SaleKnown", spec := "saleKnown", unfollowed := true, recurses := true, plainKeys := false, apart := false, narrowed := true }
def SaleKnownUptoSaid : Prop := saleKnownUptoRow.holds Try.pinned (OpenSpec.upto saleKnownSpec)

/-- 'aigrettelaw06.SaleTruth', WHERE WHAT IT READS IS OF BULK AT MOST 1048576: true; the input reads as it did. -/
def saleTruthUptoRow : OpenClaim := { program := "ytdbaljbhnpchjaa", sum := "d819d80ffbf1233c528a7d5a7579f1c12c0f1ecbd649332d6d7c009026c73093", func := "aigrette/aigrettelaw06.SaleTruth", spec := "saleTruth", unfollowed := true, recurses := true, plainKeys := false, apart := false, narrowed := true }
def SaleTruthUptoSaid : Prop := saleTruthUptoRow.holds Try.pinned (OpenSpec.upto saleTruthSpec)

/-- 'aigrettelaw06.SaleDivided', WHERE WHAT IT READS IS OF BULK AT MOST 1048576: true; the input reads as it did. -/
def saleDividedUptoRow : OpenClaim := { program := "ytdbaljbhnpchjaa", sum := "d819d80ffbf1233c528a7d5a7579f1c12c0f1ecbd649332d6d7c009026c73093", func := "aigrette/aigrettelaw06.SaleDivided", spec := "saleDivided", unfollowed := true, recurses := true, plainKeys := false, apart := false, narrowed := true }
def SaleDividedUptoSaid : Prop := saleDividedUptoRow.holds Try.pinned (OpenSpec.upto saleDividedSpec)

/-- 'aigrettelaw06.SaleHall', WHERE WHAT IT READS IS OF BULK AT MOST 1048576: true; the input reads as it did. -/
def saleHallUptoRow : OpenClaim := { program := "ytdbaljbhnpchjaa", sum := "d819d80ffbf1233c528a7d5a7579f1c12c0f1ecbd649332d6d7c009026c73093", func := "aigrette/aigrettelaw06.SaleHall", spec := "saleHall", unfollowed := true, recurses := true, plainKeys := false, apart := false, narrowed := true }
def SaleHallUptoSaid : Prop := saleHallUptoRow.holds Try.pinned (OpenSpec.upto saleHallSpec)

/-- 'aigrettelaw06.SaleMore', WHERE WHAT IT READS IS OF BULK AT MOST 1048576: true; the input reads as it did. -/
def saleMoreUptoRow : OpenClaim := { program := "ytdbaljbhnpchjaa", sum := "d819d80ffbf1233c528a7d5a7579f1c12c0f1ecbd649332d6d7c009026c73093", func := "aigrette/aigrettelaw06.SaleMore", spec := "saleMore", unfollowed := true, recurses := true, plainKeys := false, apart := false, narrowed := true }
def SaleMoreUptoSaid : Prop := saleMoreUptoRow.holds Try.pinned (OpenSpec.upto saleMoreSpec)

/-- 'aigrettelaw06.SalePrices', WHERE WHAT IT READS IS OF BULK AT MOST 1048576: true; the input reads as it did. -/
def salePricesUptoRow : OpenClaim := { program := "ytdbaljbhnpchjaa", sum := "d819d80ffbf1233c528a7d5a7579f1c12c0f1ecbd649332d6d7c009026c73093", func := "aigrette/aigrettelaw06.SalePrices", spec := "salePrices", unfollowed := true, recurses := true, plainKeys := false, apart := false, narrowed := true }
def SalePricesUptoSaid : Prop := salePricesUptoRow.holds Try.pinned (OpenSpec.upto salePricesSpec)

end Rows
end Go.Proofs.Ytdbaljbhnpchjaa
