/-
  No cell of these rows narrows 'for every input' (looked for: loops, veiled, ifaces, maps, wideKeys, modest, calm, conditions, laid).
  DERIVED. THE GIVEN ROWS OF THIS SEAT. 12 by the template 'for every input the law returns true; each argument reads behind the call as it read before'; 0 by the template 'total and deterministic' (their statements: YtegnegeoodkpcaaTotals.lean).
  GIVEN WITH THE SEED: the statements are not yours to turn. If you find one false, say at which input.
  Laid BY PROGRAM, IN A SANDBOX (cutbox-rows.mjs): the forced cells as the released guide's own fill.sh prints them over the translation 62d3b3eb361d29f8… (all of the seat's roots in one cut). By AI agents, Wed Nov 11 2026. No macro, syntax, notation, axiom, sorry.
-/
import Derived.Test.YtegnegeoodkpcaaChecked
import GoSem.Claim
import GoSem.ClaimJoined
import GoSem.ClaimMapViews
import Derived.JoinedTies
import Derived.KernelRfl
namespace Go.Proofs.Ytegnegeoodkpcaa
/- THE CELL 'sum', in the pinned program and in every row, IS THE sha256 OF THE DUMP (.gsa) THAT YtegnegeoodkpcaaProg.lean LOADS. Nothing in Lean hashes anything: it is a label: what it is worth is what the hold of that sum in a sandbox is worth. -/
noncomputable def Try.pinned : Pinned := { name := "ytegnegeoodkpcaa", sum := "62d3b3eb361d29f80740b9dea7a345e11fd869e7fc5ae9941143a7f58e523f95", checked := Try.checked }
namespace Rows
def none {H : Type} : Left H := { results := [], args := [] }

/-- 'aigrettelaw09.BunchCounts': WHATEVER THE INPUT: true; the input reads as it did. -/
def bunchCountsSpec : ChangeSpec := { name := "bunchCounts", fn := fun _ => fun
  | [d1, d2] => { results := [.lit (.bool true)], args := [d1, d2] }
  | _ => none }
def bunchCountsRow : OpenClaim := { program := "ytegnegeoodkpcaa", sum := "62d3b3eb361d29f80740b9dea7a345e11fd869e7fc5ae9941143a7f58e523f95", func := "aigrette/aigrettelaw09.BunchCounts", spec := "bunchCounts", unfollowed := true, recurses := true, apart := false }
def BunchCountsSaid : Prop := bunchCountsRow.holds Try.pinned (OpenSpec.ofChange bunchCountsSpec)

/-- ITS FALSE NEIGHBOUR: 'it returns false'. Refute it at one input. -/
def bunchCountsWrong : ChangeSpec := { name := "bunchCounts", fn := fun _ => fun
  | [d1, d2] => { results := [.lit (.bool false)], args := [d1, d2] }
  | _ => none }
def BunchCountsWrongFalsely : Prop := bunchCountsRow.holds Try.pinned (OpenSpec.ofChange bunchCountsWrong)

/-- 'aigrettelaw09.BunchTurns': WHATEVER THE INPUT: true; the input reads as it did. -/
def bunchTurnsSpec : ChangeSpec := { name := "bunchTurns", fn := fun _ => fun
  | [d] => { results := [.lit (.bool true)], args := [d] }
  | _ => none }
def bunchTurnsRow : OpenClaim := { program := "ytegnegeoodkpcaa", sum := "62d3b3eb361d29f80740b9dea7a345e11fd869e7fc5ae9941143a7f58e523f95", func := "aigrette/aigrettelaw09.BunchTurns", spec := "bunchTurns", unfollowed := true, recurses := true, apart := false }
def BunchTurnsSaid : Prop := bunchTurnsRow.holds Try.pinned (OpenSpec.ofChange bunchTurnsSpec)

/-- ITS FALSE NEIGHBOUR: 'it returns false'. Refute it at one input. -/
def bunchTurnsWrong : ChangeSpec := { name := "bunchTurns", fn := fun _ => fun
  | [d] => { results := [.lit (.bool false)], args := [d] }
  | _ => none }
def BunchTurnsWrongFalsely : Prop := bunchTurnsRow.holds Try.pinned (OpenSpec.ofChange bunchTurnsWrong)

/-- 'aigrettelaw09.BunchNumbers': WHATEVER THE INPUT: true; the input reads as it did. -/
def bunchNumbersSpec : ChangeSpec := { name := "bunchNumbers", fn := fun _ => fun
  | [d1, d2, d3] => { results := [.lit (.bool true)], args := [d1, d2, d3] }
  | _ => none }
def bunchNumbersRow : OpenClaim := { program := "ytegnegeoodkpcaa", sum := "62d3b3eb361d29f80740b9dea7a345e11fd869e7fc5ae9941143a7f58e523f95", func := "aigrette/aigrettelaw09.BunchNumbers", spec := "bunchNumbers", unfollowed := true, recurses := true, apart := false }
def BunchNumbersSaid : Prop := bunchNumbersRow.holds Try.pinned (OpenSpec.ofChange bunchNumbersSpec)

/-- ITS FALSE NEIGHBOUR: 'it returns false'. Refute it at one input. -/
def bunchNumbersWrong : ChangeSpec := { name := "bunchNumbers", fn := fun _ => fun
  | [d1, d2, d3] => { results := [.lit (.bool false)], args := [d1, d2, d3] }
  | _ => none }
def BunchNumbersWrongFalsely : Prop := bunchNumbersRow.holds Try.pinned (OpenSpec.ofChange bunchNumbersWrong)

/-- 'aigrettelaw09.BunchSquares': WHATEVER THE INPUT: true; the input reads as it did. -/
def bunchSquaresSpec : ChangeSpec := { name := "bunchSquares", fn := fun _ => fun
  | [d1, d2, d3, d4] => { results := [.lit (.bool true)], args := [d1, d2, d3, d4] }
  | _ => none }
def bunchSquaresRow : OpenClaim := { program := "ytegnegeoodkpcaa", sum := "62d3b3eb361d29f80740b9dea7a345e11fd869e7fc5ae9941143a7f58e523f95", func := "aigrette/aigrettelaw09.BunchSquares", spec := "bunchSquares", unfollowed := true, recurses := true, apart := false }
def BunchSquaresSaid : Prop := bunchSquaresRow.holds Try.pinned (OpenSpec.ofChange bunchSquaresSpec)

/-- ITS FALSE NEIGHBOUR: 'it returns false'. Refute it at one input. -/
def bunchSquaresWrong : ChangeSpec := { name := "bunchSquares", fn := fun _ => fun
  | [d1, d2, d3, d4] => { results := [.lit (.bool false)], args := [d1, d2, d3, d4] }
  | _ => none }
def BunchSquaresWrongFalsely : Prop := bunchSquaresRow.holds Try.pinned (OpenSpec.ofChange bunchSquaresWrong)

/-- 'aigrettelaw09.BunchGlaisher': WHATEVER THE INPUT: true; the input reads as it did. -/
def bunchGlaisherSpec : ChangeSpec := { name := "bunchGlaisher", fn := fun _ => fun
  | [d] => { results := [.lit (.bool true)], args := [d] }
  | _ => none }
def bunchGlaisherRow : OpenClaim := { program := "ytegnegeoodkpcaa", sum := "62d3b3eb361d29f80740b9dea7a345e11fd869e7fc5ae9941143a7f58e523f95", func := "aigrette/aigrettelaw09.BunchGlaisher", spec := "bunchGlaisher", unfollowed := true, recurses := true, apart := false }
def BunchGlaisherSaid : Prop := bunchGlaisherRow.holds Try.pinned (OpenSpec.ofChange bunchGlaisherSpec)

/-- ITS FALSE NEIGHBOUR: 'it returns false'. Refute it at one input. -/
def bunchGlaisherWrong : ChangeSpec := { name := "bunchGlaisher", fn := fun _ => fun
  | [d] => { results := [.lit (.bool false)], args := [d] }
  | _ => none }
def BunchGlaisherWrongFalsely : Prop := bunchGlaisherRow.holds Try.pinned (OpenSpec.ofChange bunchGlaisherWrong)

/-- 'aigrettelaw09.BunchFranklin': WHATEVER THE INPUT: true; the input reads as it did. -/
def bunchFranklinSpec : ChangeSpec := { name := "bunchFranklin", fn := fun _ => fun
  | [d] => { results := [.lit (.bool true)], args := [d] }
  | _ => none }
def bunchFranklinRow : OpenClaim := { program := "ytegnegeoodkpcaa", sum := "62d3b3eb361d29f80740b9dea7a345e11fd869e7fc5ae9941143a7f58e523f95", func := "aigrette/aigrettelaw09.BunchFranklin", spec := "bunchFranklin", unfollowed := true, recurses := true, apart := false }
def BunchFranklinSaid : Prop := bunchFranklinRow.holds Try.pinned (OpenSpec.ofChange bunchFranklinSpec)

/-- ITS FALSE NEIGHBOUR: 'it returns false'. Refute it at one input. -/
def bunchFranklinWrong : ChangeSpec := { name := "bunchFranklin", fn := fun _ => fun
  | [d] => { results := [.lit (.bool false)], args := [d] }
  | _ => none }
def BunchFranklinWrongFalsely : Prop := bunchFranklinRow.holds Try.pinned (OpenSpec.ofChange bunchFranklinWrong)

/-- 'aigrettelaw09.BunchPentagonal': WHATEVER THE INPUT: true; the input reads as it did. -/
def bunchPentagonalSpec : ChangeSpec := { name := "bunchPentagonal", fn := fun _ => fun
  | [d1, d2] => { results := [.lit (.bool true)], args := [d1, d2] }
  | _ => none }
def bunchPentagonalRow : OpenClaim := { program := "ytegnegeoodkpcaa", sum := "62d3b3eb361d29f80740b9dea7a345e11fd869e7fc5ae9941143a7f58e523f95", func := "aigrette/aigrettelaw09.BunchPentagonal", spec := "bunchPentagonal", unfollowed := true, recurses := true, apart := false }
def BunchPentagonalSaid : Prop := bunchPentagonalRow.holds Try.pinned (OpenSpec.ofChange bunchPentagonalSpec)

/-- ITS FALSE NEIGHBOUR: 'it returns false'. Refute it at one input. -/
def bunchPentagonalWrong : ChangeSpec := { name := "bunchPentagonal", fn := fun _ => fun
  | [d1, d2] => { results := [.lit (.bool false)], args := [d1, d2] }
  | _ => none }
def BunchPentagonalWrongFalsely : Prop := bunchPentagonalRow.holds Try.pinned (OpenSpec.ofChange bunchPentagonalWrong)

/-- 'aigrettelaw09.BunchHooked': WHATEVER THE INPUT: true; the input reads as it did. -/
def bunchHookedSpec : ChangeSpec := { name := "bunchHooked", fn := fun _ => fun
  | [d] => { results := [.lit (.bool true)], args := [d] }
  | _ => none }
def bunchHookedRow : OpenClaim := { program := "ytegnegeoodkpcaa", sum := "62d3b3eb361d29f80740b9dea7a345e11fd869e7fc5ae9941143a7f58e523f95", func := "aigrette/aigrettelaw09.BunchHooked", spec := "bunchHooked", unfollowed := true, recurses := true, apart := false }
def BunchHookedSaid : Prop := bunchHookedRow.holds Try.pinned (OpenSpec.ofChange bunchHookedSpec)

/-- ITS FALSE NEIGHBOUR: 'it returns false'. Refute it at one input. -/
def bunchHookedWrong : ChangeSpec := { name := "bunchHooked", fn := fun _ => fun
  | [d] => { results := [.lit (.bool false)], args := [d] }
  | _ => none }
def BunchHookedWrongFalsely : Prop := bunchHookedRow.holds Try.pinned (OpenSpec.ofChange bunchHookedWrong)

/-- 'aigrettelaw09.BunchKnown': WHATEVER THE INPUT: true; the input reads as it did. -/
def bunchKnownSpec : ChangeSpec := { name := "bunchKnown", fn := fun _ => fun
  | [] => { results := [.lit (.bool true)], args := [] }
  | _ => none }
def bunchKnownRow : OpenClaim := { program := "ytegnegeoodkpcaa", sum := "62d3b3eb361d29f80740b9dea7a345e11fd869e7fc5ae9941143a7f58e523f95", func := "aigrette/aigrettelaw09.BunchKnown", spec := "bunchKnown", unfollowed := true, recurses := true, apart := false }
def BunchKnownSaid : Prop := bunchKnownRow.holds Try.pinned (OpenSpec.ofChange bunchKnownSpec)

/-- ITS FALSE NEIGHBOUR: 'it returns false'. Refute it at one input. -/
def bunchKnownWrong : ChangeSpec := { name := "bunchKnown", fn := fun _ => fun
  | [] => { results := [.lit (.bool false)], args := [] }
  | _ => none }
def BunchKnownWrongFalsely : Prop := bunchKnownRow.holds Try.pinned (OpenSpec.ofChange bunchKnownWrong)

/-- 'aigrettelaw09.BunchTurned': WHATEVER THE INPUT: true; the input reads as it did. -/
def bunchTurnedSpec : ChangeSpec := { name := "bunchTurned", fn := fun _ => fun
  | [d1, d2, d3] => { results := [.lit (.bool true)], args := [d1, d2, d3] }
  | _ => none }
def bunchTurnedRow : OpenClaim := { program := "ytegnegeoodkpcaa", sum := "62d3b3eb361d29f80740b9dea7a345e11fd869e7fc5ae9941143a7f58e523f95", func := "aigrette/aigrettelaw09.BunchTurned", spec := "bunchTurned", unfollowed := true, recurses := true, apart := false }
def BunchTurnedSaid : Prop := bunchTurnedRow.holds Try.pinned (OpenSpec.ofChange bunchTurnedSpec)

/-- ITS FALSE NEIGHBOUR: 'it returns false'. Refute it at one input. -/
def bunchTurnedWrong : ChangeSpec := { name := "bunchTurned", fn := fun _ => fun
  | [d1, d2, d3] => { results := [.lit (.bool false)], args := [d1, d2, d3] }
  | _ => none }
def BunchTurnedWrongFalsely : Prop := bunchTurnedRow.holds Try.pinned (OpenSpec.ofChange bunchTurnedWrong)

/-- 'aigrettelaw09.BunchSquared': WHATEVER THE INPUT: true; the input reads as it did. -/
def bunchSquaredSpec : ChangeSpec := { name := "bunchSquared", fn := fun _ => fun
  | [d1, d2, d3, d4] => { results := [.lit (.bool true)], args := [d1, d2, d3, d4] }
  | _ => none }
def bunchSquaredRow : OpenClaim := { program := "ytegnegeoodkpcaa", sum := "62d3b3eb361d29f80740b9dea7a345e11fd869e7fc5ae9941143a7f58e523f95", func := "aigrette/aigrettelaw09.BunchSquared", spec := "bunchSquared", unfollowed := true, recurses := true, apart := false }
def BunchSquaredSaid : Prop := bunchSquaredRow.holds Try.pinned (OpenSpec.ofChange bunchSquaredSpec)

/-- ITS FALSE NEIGHBOUR: 'it returns false'. Refute it at one input. -/
def bunchSquaredWrong : ChangeSpec := { name := "bunchSquared", fn := fun _ => fun
  | [d1, d2, d3, d4] => { results := [.lit (.bool false)], args := [d1, d2, d3, d4] }
  | _ => none }
def BunchSquaredWrongFalsely : Prop := bunchSquaredRow.holds Try.pinned (OpenSpec.ofChange bunchSquaredWrong)

/-- 'aigrettelaw09.BunchListed': WHATEVER THE INPUT: true; the input reads as it did. -/
def bunchListedSpec : ChangeSpec := { name := "bunchListed", fn := fun _ => fun
  | [d1, d2] => { results := [.lit (.bool true)], args := [d1, d2] }
  | _ => none }
def bunchListedRow : OpenClaim := { program := "ytegnegeoodkpcaa", sum := "62d3b3eb361d29f80740b9dea7a345e11fd869e7fc5ae9941143a7f58e523f95", func := "aigrette/aigrettelaw09.BunchListed", spec := "bunchListed", unfollowed := true, recurses := true, apart := false }
def BunchListedSaid : Prop := bunchListedRow.holds Try.pinned (OpenSpec.ofChange bunchListedSpec)

/-- ITS FALSE NEIGHBOUR: 'it returns false'. Refute it at one input. -/
def bunchListedWrong : ChangeSpec := { name := "bunchListed", fn := fun _ => fun
  | [d1, d2] => { results := [.lit (.bool false)], args := [d1, d2] }
  | _ => none }
def BunchListedWrongFalsely : Prop := bunchListedRow.holds Try.pinned (OpenSpec.ofChange bunchListedWrong)

/- THE SECOND FORM. 'bulk': how many values and letters a reading holds, each counted each time it is reached (what is shared counts as often as it is met; a slice's spare places count too). A statement '..UptoSaid' is the law's where the arguments, and the package variables that the reading takes, are together of bulk at most 1048576: NARROWER than '..Said'. Prove '..Said' where nothing that the law and all that it calls make is longer than what came in: it says more and counts as full. Else prove '..UptoSaid'. A law counts once. -/
mutual
def uptoBulk {H : Type} : DataW H → Nat
  | .lit (.string bytes) => bytes.length + 1
  | .lit _ => 1
  | .nil => 1
  | .ptr d => uptoBulk d + 1
  | .slice elems spare => uptoBulkAll elems + uptoBulkAll spare + 1
  | .agg parts => uptoBulkAll parts + 1
  | .iface _ d => uptoBulk d + 1
  | .map entries => uptoBulkEntries entries + 1
  | .held _ => 1
def uptoBulkAll {H : Type} : List (DataW H) → Nat
  | [] => 0
  | d :: r => uptoBulk d + uptoBulkAll r
def uptoBulkEntries {H : Type} : List (Lit × DataW H) → Nat
  | [] => 0
  | x :: r => uptoBulkEntry x + uptoBulkEntries r
def uptoBulkEntry {H : Type} : Lit × DataW H → Nat
  | (.string bytes, d) => bytes.length + uptoBulk d + 1
  | (_, d) => uptoBulk d + 1
 end
def uptoSmall : (H : Type) → List (DataW H) → Bool := fun _ ds => decide (uptoBulkAll ds ≤ 1048576)
def OpenSpec.upto (s : _root_.Go.ChangeSpec) : _root_.Go.OpenSpec := { _root_.Go.OpenSpec.ofChange s with cond := some uptoSmall }

/-- 'aigrettelaw09.BunchCounts', WHERE WHAT IT READS IS OF BULK AT MOST 1048576: true; the input reads as it did. -/
def bunchCountsUptoRow : OpenClaim := { program := "ytegnegeoodkpcaa", sum := "62d3b3eb361d29f80740b9dea7a345e11fd869e7fc5ae9941143a7f58e523f95", func := "aigrette/aigrettelaw09.BunchCounts", spec := "bunchCounts", unfollowed := true, recurses := true, apart := false, narrowed := true }
def BunchCountsUptoSaid : Prop := bunchCountsUptoRow.holds Try.pinned (OpenSpec.upto bunchCountsSpec)

/-- 'aigrettelaw09.BunchTurns', WHERE WHAT IT READS IS OF BULK AT MOST 1048576: true; the input reads as it did. -/
def bunchTurnsUptoRow : OpenClaim := { program := "ytegnegeoodkpcaa", sum := "62d3b3eb361d29f80740b9dea7a345e11fd869e7fc5ae9941143a7f58e523f95", func := "aigrette/aigrettelaw09.BunchTurns", spec := "bunchTurns", unfollowed := true, recurses := true, apart := false, narrowed := true }
def BunchTurnsUptoSaid : Prop := bunchTurnsUptoRow.holds Try.pinned (OpenSpec.upto bunchTurnsSpec)

/-- 'aigrettelaw09.BunchNumbers', WHERE WHAT IT READS IS OF BULK AT MOST 1048576: true; the input reads as it did. -/
def bunchNumbersUptoRow : OpenClaim := { program := "ytegnegeoodkpcaa", sum := "62d3b3eb361d29f80740b9dea7a345e11fd869e7fc5ae9941143a7f58e523f95", func := "aigrette/aigrettelaw09.BunchNumbers", spec := "bunchNumbers", unfollowed := true, recurses := true, apart := false, narrowed := true }
def BunchNumbersUptoSaid : Prop := bunchNumbersUptoRow.holds Try.pinned (OpenSpec.upto bunchNumbersSpec)

/-- 'aigrettelaw09.BunchSquares', WHERE WHAT IT READS IS OF BULK AT MOST 1048576: true; the input reads as it did. -/
def bunchSquaresUptoRow : OpenClaim := { program := "ytegnegeoodkpcaa", sum := "62d3b3eb361d29f80740b9dea7a345e11fd869e7fc5ae9941143a7f58e523f95", func := "aigrette/aigrettelaw09.BunchSquares", spec := "bunchSquares", unfollowed := true, recurses := true, apart := false, narrowed := true }
def BunchSquaresUptoSaid : Prop := bunchSquaresUptoRow.holds Try.pinned (OpenSpec.upto bunchSquaresSpec)

/-- 'aigrettelaw09.BunchGlaisher', WHERE WHAT IT READS IS OF BULK AT MOST 1048576: true; the input reads as it did. -/
def bunchGlaisherUptoRow : OpenClaim := { program := "ytegnegeoodkpcaa", sum := "62d3b3eb361d29f80740b9dea7a345e11fd869e7fc5ae9941143a7f58e523f95", func := "aigrette/aigrettelaw09.BunchGlaisher", spec := "bunchGlaisher", unfollowed := true, recurses := true, apart := false, narrowed := true }
def BunchGlaisherUptoSaid : Prop := bunchGlaisherUptoRow.holds Try.pinned (OpenSpec.upto bunchGlaisherSpec)

/-- 'aigrettelaw09.BunchFranklin', WHERE WHAT IT READS IS OF BULK AT MOST 1048576: true; the input reads as it did. -/
def bunchFranklinUptoRow : OpenClaim := { program := "ytegnegeoodkpcaa", sum := "62d3b3eb361d29f80740b9dea7a345e11fd869e7fc5ae9941143a7f58e523f95", func := "aigrette/aigrettelaw09.BunchFranklin", spec := "bunchFranklin", unfollowed := true, recurses := true, apart := false, narrowed := true }
def BunchFranklinUptoSaid : Prop := bunchFranklinUptoRow.holds Try.pinned (OpenSpec.upto bunchFranklinSpec)

/-- 'aigrettelaw09.BunchPentagonal', WHERE WHAT IT READS IS OF BULK AT MOST 1048576: true; the input reads as it did. -/
def bunchPentagonalUptoRow : OpenClaim := { program := "ytegnegeoodkpcaa", sum := "62d3b3eb361d29f80740b9dea7a345e11fd869e7fc5ae9941143a7f58e523f95", func := "aigrette/aigrettelaw09.BunchPentagonal", spec := "bunchPentagonal", unfollowed := true, recurses := true, apart := false, narrowed := true }
def BunchPentagonalUptoSaid : Prop := bunchPentagonalUptoRow.holds Try.pinned (OpenSpec.upto bunchPentagonalSpec)

/-- 'aigrettelaw09.BunchHooked', WHERE WHAT IT READS IS OF BULK AT MOST 1048576: true; the input reads as it did. -/
def bunchHookedUptoRow : OpenClaim := { program := "ytegnegeoodkpcaa", sum := "62d3b3eb361d29f80740b9dea7a345e11fd869e7fc5ae9941143a7f58e523f95", func := "aigrette/aigrettelaw09.BunchHooked", spec := "bunchHooked", unfollowed := true, recurses := true, apart := false, narrowed := true }
def BunchHookedUptoSaid : Prop := bunchHookedUptoRow.holds Try.pinned (OpenSpec.upto bunchHookedSpec)

/-- 'aigrettelaw09.BunchKnown', WHERE WHAT IT READS IS OF BULK AT MOST 1048576: true; the input reads as it did. -/
def bunchKnownUptoRow : OpenClaim := { program := "ytegnegeoodkpcaa", sum := "62d3b3eb361d29f80740b9dea7a345e11fd869e7fc5ae9941143a7f58e523f95", func := "aigrette/aigrettelaw09.BunchKnown", spec := "bunchKnown", unfollowed := true, recurses := true, apart := false, narrowed := true }
def BunchKnownUptoSaid : Prop := bunchKnownUptoRow.holds Try.pinned (OpenSpec.upto bunchKnownSpec)

/-- 'aigrettelaw09.BunchTurned', WHERE WHAT IT READS IS OF BULK AT MOST 1048576: true; the input reads as it did. -/
def bunchTurnedUptoRow : OpenClaim := { program := "ytegnegeoodkpcaa", sum := "62d3b3eb361d29f80740b9dea7a345e11fd869e7fc5ae9941143a7f58e523f95", func := "aigrette/aigrettelaw09.BunchTurned", spec := "bunchTurned", unfollowed := true, recurses := true, apart := false, narrowed := true }
def BunchTurnedUptoSaid : Prop := bunchTurnedUptoRow.holds Try.pinned (OpenSpec.upto bunchTurnedSpec)

/-- 'aigrettelaw09.BunchSquared', WHERE WHAT IT READS IS OF BULK AT MOST 1048576: true; the input reads as it did. -/
def bunchSquaredUptoRow : OpenClaim := { program := "ytegnegeoodkpcaa", sum := "62d3b3eb361d29f80740b9dea7a345e11fd869e7fc5ae9941143a7f58e523f95", func := "aigrette/aigrettelaw09.BunchSquared", spec := "bunchSquared", unfollowed := true, recurses := true, apart := false, narrowed := true }
def BunchSquaredUptoSaid : Prop := bunchSquaredUptoRow.holds Try.pinned (OpenSpec.upto bunchSquaredSpec)

/-- 'aigrettelaw09.BunchListed', WHERE WHAT IT READS IS OF BULK AT MOST 1048576: true; the input reads as it did. -/
def bunchListedUptoRow : OpenClaim := { program := "ytegnegeoodkpcaa", sum := "62d3b3eb361d29f80740b9dea7a345e11fd869e7fc5ae9941143a7f58e523f95", func := "aigrette/aigrettelaw09.BunchListed", spec := "bunchListed", unfollowed := true, recurses := true, apart := false, narrowed := true }
def BunchListedUptoSaid : Prop := bunchListedUptoRow.holds Try.pinned (OpenSpec.upto bunchListedSpec)

end Rows
end Go.Proofs.Ytegnegeoodkpcaa
