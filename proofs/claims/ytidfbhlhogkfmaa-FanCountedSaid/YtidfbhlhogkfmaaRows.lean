/-
  No cell of these rows narrows 'for every input' (looked for: loops, veiled, ifaces, maps, wideKeys, modest, calm, conditions, laid).
  DERIVED. THE GIVEN ROWS OF THIS SEAT. 10 by the template 'for every input the law returns true; each argument reads behind the call as it read before'; 0 by the template 'total and deterministic' (their statements: YtidfbhlhogkfmaaTotals.lean).
  GIVEN WITH THE SEED: the statements are not yours to turn. If you find one false, say at which input.
  Laid BY PROGRAM, IN A SANDBOX (cutbox-rows.mjs): the forced cells as the released guide's own fill.sh prints them over the translation bfcc60cda0b0b67e… (all of the seat's roots in one cut). By AI agents, Wed Nov 11 2026. No macro, syntax, notation, axiom, sorry.
-/
import Derived.Test.YtidfbhlhogkfmaaChecked
import GoSem.Claim
import GoSem.ClaimJoined
import GoSem.ClaimMapViews
import Derived.JoinedTies
import Derived.KernelRfl
namespace Go.Proofs.Ytidfbhlhogkfmaa
/- THE CELL 'sum', in the pinned program and in every row, IS THE sha256 OF THE DUMP (.gsa) THAT YtidfbhlhogkfmaaProg.lean LOADS. Nothing in Lean hashes anything: it is a label: what it is worth is what the hold of that sum in a sandbox is worth. -/
noncomputable def Try.pinned : Pinned := { name := "ytidfbhlhogkfmaa", sum := "bfcc60cda0b0b67e70695ac543d3f9a6a7063f61db4f69e3ffd1e916d6298100", checked := Try.checked }
namespace Rows
def none {H : Type} : Left H := { results := [], args := [] }

/-- 'aigrettelaw04.FanPuts': WHATEVER THE INPUT: true; the input reads as it did. -/
def fanPutsSpec : ChangeSpec := { name := "fanPuts", fn := fun _ => fun
  | [d1, d2, d3] => { results := [.lit (.bool true)], args := [d1, d2, d3] }
  | _ => none }
def fanPutsRow : OpenClaim := { program := "ytidfbhlhogkfmaa", sum := "bfcc60cda0b0b67e70695ac543d3f9a6a7063f61db4f69e3ffd1e916d6298100", func := "aigrette/aigrettelaw04.FanPuts", spec := "fanPuts", unfollowed := true, recurses := true, apart := false }
def FanPutsSaid : Prop := fanPutsRow.holds Try.pinned (OpenSpec.ofChange fanPutsSpec)

/-- ITS FALSE NEIGHBOUR: 'it returns false'. Refute it at one input. -/
def fanPutsWrong : ChangeSpec := { name := "fanPuts", fn := fun _ => fun
  | [d1, d2, d3] => { results := [.lit (.bool false)], args := [d1, d2, d3] }
  | _ => none }
def FanPutsWrongFalsely : Prop := fanPutsRow.holds Try.pinned (OpenSpec.ofChange fanPutsWrong)

/-- 'aigrettelaw04.FanBetween': WHATEVER THE INPUT: true; the input reads as it did. -/
def fanBetweenSpec : ChangeSpec := { name := "fanBetween", fn := fun _ => fun
  | [d1, d2, d3] => { results := [.lit (.bool true)], args := [d1, d2, d3] }
  | _ => none }
def fanBetweenRow : OpenClaim := { program := "ytidfbhlhogkfmaa", sum := "bfcc60cda0b0b67e70695ac543d3f9a6a7063f61db4f69e3ffd1e916d6298100", func := "aigrette/aigrettelaw04.FanBetween", spec := "fanBetween", unfollowed := true, recurses := true, apart := false }
def FanBetweenSaid : Prop := fanBetweenRow.holds Try.pinned (OpenSpec.ofChange fanBetweenSpec)

/-- ITS FALSE NEIGHBOUR: 'it returns false'. Refute it at one input. -/
def fanBetweenWrong : ChangeSpec := { name := "fanBetween", fn := fun _ => fun
  | [d1, d2, d3] => { results := [.lit (.bool false)], args := [d1, d2, d3] }
  | _ => none }
def FanBetweenWrongFalsely : Prop := fanBetweenRow.holds Try.pinned (OpenSpec.ofChange fanBetweenWrong)

/-- 'aigrettelaw04.FanCompletes': WHATEVER THE INPUT: true; the input reads as it did. -/
def fanCompletesSpec : ChangeSpec := { name := "fanCompletes", fn := fun _ => fun
  | [d1, d2] => { results := [.lit (.bool true)], args := [d1, d2] }
  | _ => none }
def fanCompletesRow : OpenClaim := { program := "ytidfbhlhogkfmaa", sum := "bfcc60cda0b0b67e70695ac543d3f9a6a7063f61db4f69e3ffd1e916d6298100", func := "aigrette/aigrettelaw04.FanCompletes", spec := "fanCompletes", unfollowed := true, recurses := true, apart := false }
def FanCompletesSaid : Prop := fanCompletesRow.holds Try.pinned (OpenSpec.ofChange fanCompletesSpec)

/-- ITS FALSE NEIGHBOUR: 'it returns false'. Refute it at one input. -/
def fanCompletesWrong : ChangeSpec := { name := "fanCompletes", fn := fun _ => fun
  | [d1, d2] => { results := [.lit (.bool false)], args := [d1, d2] }
  | _ => none }
def FanCompletesWrongFalsely : Prop := fanCompletesRow.holds Try.pinned (OpenSpec.ofChange fanCompletesWrong)

/-- 'aigrettelaw04.FanLangford': WHATEVER THE INPUT: true; the input reads as it did. -/
def fanLangfordSpec : ChangeSpec := { name := "fanLangford", fn := fun _ => fun
  | [d1, d2] => { results := [.lit (.bool true)], args := [d1, d2] }
  | _ => none }
def fanLangfordRow : OpenClaim := { program := "ytidfbhlhogkfmaa", sum := "bfcc60cda0b0b67e70695ac543d3f9a6a7063f61db4f69e3ffd1e916d6298100", func := "aigrette/aigrettelaw04.FanLangford", spec := "fanLangford", unfollowed := true, recurses := true, apart := false }
def FanLangfordSaid : Prop := fanLangfordRow.holds Try.pinned (OpenSpec.ofChange fanLangfordSpec)

/-- ITS FALSE NEIGHBOUR: 'it returns false'. Refute it at one input. -/
def fanLangfordWrong : ChangeSpec := { name := "fanLangford", fn := fun _ => fun
  | [d1, d2] => { results := [.lit (.bool false)], args := [d1, d2] }
  | _ => none }
def FanLangfordWrongFalsely : Prop := fanLangfordRow.holds Try.pinned (OpenSpec.ofChange fanLangfordWrong)

/-- 'aigrettelaw04.FanCounted': WHATEVER THE INPUT: true; the input reads as it did. -/
def fanCountedSpec : ChangeSpec := { name := "fanCounted", fn := fun _ => fun
  | [d1, d2] => { results := [.lit (.bool true)], args := [d1, d2] }
  | _ => none }
def fanCountedRow : OpenClaim := { program := "ytidfbhlhogkfmaa", sum := "bfcc60cda0b0b67e70695ac543d3f9a6a7063f61db4f69e3ffd1e916d6298100", func := "aigrette/aigrettelaw04.FanCounted", spec := "fanCounted", unfollowed := true, recurses := true, apart := false }
def FanCountedSaid : Prop := fanCountedRow.holds Try.pinned (OpenSpec.ofChange fanCountedSpec)

/-- ITS FALSE NEIGHBOUR: 'it returns false'. Refute it at one input. -/
def fanCountedWrong : ChangeSpec := { name := "fanCounted", fn := fun _ => fun
  | [d1, d2] => { results := [.lit (.bool false)], args := [d1, d2] }
  | _ => none }
def FanCountedWrongFalsely : Prop := fanCountedRow.holds Try.pinned (OpenSpec.ofChange fanCountedWrong)

/-- 'aigrettelaw04.FanCrossed': WHATEVER THE INPUT: true; the input reads as it did. -/
def fanCrossedSpec : ChangeSpec := { name := "fanCrossed", fn := fun _ => fun
  | [d1, d2] => { results := [.lit (.bool true)], args := [d1, d2] }
  | _ => none }
def fanCrossedRow : OpenClaim := { program := "ytidfbhlhogkfmaa", sum := "bfcc60cda0b0b67e70695ac543d3f9a6a7063f61db4f69e3ffd1e916d6298100", func := "aigrette/aigrettelaw04.FanCrossed", spec := "fanCrossed", unfollowed := true, recurses := true, apart := false }
def FanCrossedSaid : Prop := fanCrossedRow.holds Try.pinned (OpenSpec.ofChange fanCrossedSpec)

/-- ITS FALSE NEIGHBOUR: 'it returns false'. Refute it at one input. -/
def fanCrossedWrong : ChangeSpec := { name := "fanCrossed", fn := fun _ => fun
  | [d1, d2] => { results := [.lit (.bool false)], args := [d1, d2] }
  | _ => none }
def FanCrossedWrongFalsely : Prop := fanCrossedRow.holds Try.pinned (OpenSpec.ofChange fanCrossedWrong)

/-- 'aigrettelaw04.FanTurned': WHATEVER THE INPUT: true; the input reads as it did. -/
def fanTurnedSpec : ChangeSpec := { name := "fanTurned", fn := fun _ => fun
  | [d] => { results := [.lit (.bool true)], args := [d] }
  | _ => none }
def fanTurnedRow : OpenClaim := { program := "ytidfbhlhogkfmaa", sum := "bfcc60cda0b0b67e70695ac543d3f9a6a7063f61db4f69e3ffd1e916d6298100", func := "aigrette/aigrettelaw04.FanTurned", spec := "fanTurned", unfollowed := true, recurses := true, apart := false }
def FanTurnedSaid : Prop := fanTurnedRow.holds Try.pinned (OpenSpec.ofChange fanTurnedSpec)

/-- ITS FALSE NEIGHBOUR: 'it returns false'. Refute it at one input. -/
def fanTurnedWrong : ChangeSpec := { name := "fanTurned", fn := fun _ => fun
  | [d] => { results := [.lit (.bool false)], args := [d] }
  | _ => none }
def FanTurnedWrongFalsely : Prop := fanTurnedRow.holds Try.pinned (OpenSpec.ofChange fanTurnedWrong)

/-- 'aigrettelaw04.FanChecks': WHATEVER THE INPUT: true; the input reads as it did. -/
def fanChecksSpec : ChangeSpec := { name := "fanChecks", fn := fun _ => fun
  | [d] => { results := [.lit (.bool true)], args := [d] }
  | _ => none }
def fanChecksRow : OpenClaim := { program := "ytidfbhlhogkfmaa", sum := "bfcc60cda0b0b67e70695ac543d3f9a6a7063f61db4f69e3ffd1e916d6298100", func := "aigrette/aigrettelaw04.FanChecks", spec := "fanChecks", unfollowed := true, recurses := true, apart := false }
def FanChecksSaid : Prop := fanChecksRow.holds Try.pinned (OpenSpec.ofChange fanChecksSpec)

/-- ITS FALSE NEIGHBOUR: 'it returns false'. Refute it at one input. -/
def fanChecksWrong : ChangeSpec := { name := "fanChecks", fn := fun _ => fun
  | [d] => { results := [.lit (.bool false)], args := [d] }
  | _ => none }
def FanChecksWrongFalsely : Prop := fanChecksRow.holds Try.pinned (OpenSpec.ofChange fanChecksWrong)

/-- 'aigrettelaw04.FanPlaced': WHATEVER THE INPUT: true; the input reads as it did. -/
def fanPlacedSpec : ChangeSpec := { name := "fanPlaced", fn := fun _ => fun
  | [d1, d2, d3] => { results := [.lit (.bool true)], args := [d1, d2, d3] }
  | _ => none }
def fanPlacedRow : OpenClaim := { program := "ytidfbhlhogkfmaa", sum := "bfcc60cda0b0b67e70695ac543d3f9a6a7063f61db4f69e3ffd1e916d6298100", func := "aigrette/aigrettelaw04.FanPlaced", spec := "fanPlaced", unfollowed := true, recurses := true, apart := false }
def FanPlacedSaid : Prop := fanPlacedRow.holds Try.pinned (OpenSpec.ofChange fanPlacedSpec)

/-- ITS FALSE NEIGHBOUR: 'it returns false'. Refute it at one input. -/
def fanPlacedWrong : ChangeSpec := { name := "fanPlaced", fn := fun _ => fun
  | [d1, d2, d3] => { results := [.lit (.bool false)], args := [d1, d2, d3] }
  | _ => none }
def FanPlacedWrongFalsely : Prop := fanPlacedRow.holds Try.pinned (OpenSpec.ofChange fanPlacedWrong)

/-- 'aigrettelaw04.FanKnown': WHATEVER THE INPUT: true; the input reads as it did. -/
def fanKnownSpec : ChangeSpec := { name := "fanKnown", fn := fun _ => fun
  | [] => { results := [.lit (.bool true)], args := [] }
  | _ => none }
def fanKnownRow : OpenClaim := { program := "ytidfbhlhogkfmaa", sum := "bfcc60cda0b0b67e70695ac543d3f9a6a7063f61db4f69e3ffd1e916d6298100", func := "aigrette/aigrettelaw04.FanKnown", spec := "fanKnown", unfollowed := true, recurses := true, apart := false }
def FanKnownSaid : Prop := fanKnownRow.holds Try.pinned (OpenSpec.ofChange fanKnownSpec)

/-- ITS FALSE NEIGHBOUR: 'it returns false'. Refute it at one input. -/
def fanKnownWrong : ChangeSpec := { name := "fanKnown", fn := fun _ => fun
  | [] => { results := [.lit (.bool false)], args := [] }
  | _ => none }
def FanKnownWrongFalsely : Prop := fanKnownRow.holds Try.pinned (OpenSpec.ofChange fanKnownWrong)

/- THE SECOND FORM. 'bulk': how many values and letters a reading holds, each counted each time it is reached (what is shared counts as often as it is met; a slice's spare places count too). A statement '..UptoSaid' is the law's where the arguments, and the package variables that the reading takes, are together of bulk at most 1048576: NARROWER than '..Said'. Prove '..Said' where nothing that the law and all that it calls make is longer than what came in: it says more and counts as full. Else prove '..UptoSaid'. A law counts once. -/
mutual
def uptoBulk {H : Type} : DataW H → Nat
  | .lit (.string bytes) => bytes.length + 1
  | .lit _ => 1
  | .nil => 1
  | .ptr d => uptoBulk d + 1
  | .slice elems spare => uptoBulkAll elems + uptoBulkAll spare + 1
  | .agg parts => uptoBulkAll parts + 1
  | .iface _ d => uptoBulk d + 1
  | .map entries => uptoBulkEntries entries + 1
  | .held _ => 1
def uptoBulkAll {H : Type} : List (DataW H) → Nat
  | [] => 0
  | d :: r => uptoBulk d + uptoBulkAll r
def uptoBulkEntries {H : Type} : List (Lit × DataW H) → Nat
  | [] => 0
  | x :: r => uptoBulkEntry x + uptoBulkEntries r
def uptoBulkEntry {H : Type} : Lit × DataW H → Nat
  | (.string bytes, d) => bytes.length + uptoBulk d + 1
  | (_, d) => uptoBulk d + 1
 end
def uptoSmall : (H : Type) → List (DataW H) → Bool := fun _ ds => decide (uptoBulkAll ds ≤ 1048576)
def OpenSpec.upto (s : _root_.Go.ChangeSpec) : _root_.Go.OpenSpec := { _root_.Go.OpenSpec.ofChange s with cond := some uptoSmall }

/-- 'aigrettelaw04.FanPuts', WHERE WHAT IT READS IS OF BULK AT MOST 1048576: true; the input reads as it did. -/
def fanPutsUptoRow : OpenClaim := { program := "ytidfbhlhogkfmaa", sum := "bfcc60cda0b0b67e70695ac543d3f9a6a7063f61db4f69e3ffd1e916d6298100", func := "aigrette/aigrettelaw04.FanPuts", spec := "fanPuts", unfollowed := true, recurses := true, apart := false, narrowed := true }
def FanPutsUptoSaid : Prop := fanPutsUptoRow.holds Try.pinned (OpenSpec.upto fanPutsSpec)

/-- 'aigrettelaw04.FanBetween', WHERE WHAT IT READS IS OF BULK AT MOST 1048576: true; the input reads as it did. -/
def fanBetweenUptoRow : OpenClaim := { program := "ytidfbhlhogkfmaa", sum := "bfcc60cda0b0b67e70695ac543d3f9a6a7063f61db4f69e3ffd1e916d6298100", func := "aigrette/aigrettelaw04.FanBetween", spec := "fanBetween", unfollowed := true, recurses := true, apart := false, narrowed := true }
def FanBetweenUptoSaid : Prop := fanBetweenUptoRow.holds Try.pinned (OpenSpec.upto fanBetweenSpec)

/-- 'aigrettelaw04.FanCompletes', WHERE WHAT IT READS IS OF BULK AT MOST 1048576: true; the input reads as it did. -/
def fanCompletesUptoRow : OpenClaim := { program := "ytidfbhlhogkfmaa", sum := "bfcc60cda0b0b67e70695ac543d3f9a6a7063f61db4f69e3ffd1e916d6298100", func := "aigrette/aigrettelaw04.FanCompletes", spec := "fanCompletes", unfollowed := true, recurses := true, apart := false, narrowed := true }
def FanCompletesUptoSaid : Prop := fanCompletesUptoRow.holds Try.pinned (OpenSpec.upto fanCompletesSpec)

/-- 'aigrettelaw04.FanLangford', WHERE WHAT IT READS IS OF BULK AT MOST 1048576: true; the input reads as it did. -/
def fanLangfordUptoRow : OpenClaim := { program := "ytidfbhlhogkfmaa", sum := "bfcc60cda0b0b67e70695ac543d3f9a6a7063f61db4f69e3ffd1e916d6298100", func := "aigrette/aigrettelaw04.FanLangford", spec := "fanLangford", unfollowed := true, recurses := true, apart := false, narrowed := true }
def FanLangfordUptoSaid : Prop := fanLangfordUptoRow.holds Try.pinned (OpenSpec.upto fanLangfordSpec)

/-- 'aigrettelaw04.FanCounted', WHERE WHAT IT READS IS OF BULK AT MOST 1048576: true; the input reads as it did. -/
def fanCountedUptoRow : OpenClaim := { program := "ytidfbhlhogkfmaa", sum := "bfcc60cda0b0b67e70695ac543d3f9a6a7063f61db4f69e3ffd1e916d6298100", func := "aigrette/aigrettelaw04.FanCounted", spec := "fanCounted", unfollowed := true, recurses := true, apart := false, narrowed := true }
def FanCountedUptoSaid : Prop := fanCountedUptoRow.holds Try.pinned (OpenSpec.upto fanCountedSpec)

/-- 'aigrettelaw04.FanCrossed', WHERE WHAT IT READS IS OF BULK AT MOST 1048576: true; the input reads as it did. -/
def fanCrossedUptoRow : OpenClaim := { program := "ytidfbhlhogkfmaa", sum := "bfcc60cda0b0b67e70695ac543d3f9a6a7063f61db4f69e3ffd1e916d6298100", func := "aigrette/aigrettelaw04.FanCrossed", spec := "fanCrossed", unfollowed := true, recurses := true, apart := false, narrowed := true }
def FanCrossedUptoSaid : Prop := fanCrossedUptoRow.holds Try.pinned (OpenSpec.upto fanCrossedSpec)

/-- 'aigrettelaw04.FanTurned', WHERE WHAT IT READS IS OF BULK AT MOST 1048576: true; the input reads as it did. -/
def fanTurnedUptoRow : OpenClaim := { program := "ytidfbhlhogkfmaa", sum := "bfcc60cda0b0b67e70695ac543d3f9a6a7063f61db4f69e3ffd1e916d6298100", func := "aigrette/aigrettelaw04.FanTurned", spec := "fanTurned", unfollowed := true, recurses := true, apart := false, narrowed := true }
def FanTurnedUptoSaid : Prop := fanTurnedUptoRow.holds Try.pinned (OpenSpec.upto fanTurnedSpec)

/-- 'aigrettelaw04.FanChecks', WHERE WHAT IT READS IS OF BULK AT MOST 1048576: true; the input reads as it did. -/
def fanChecksUptoRow : OpenClaim := { program := "ytidfbhlhogkfmaa", sum := "bfcc60cda0b0b67e70695ac543d3f9a6a7063f61db4f69e3ffd1e916d6298100", func := "aigrette/aigrettelaw04.FanChecks", spec := "fanChecks", unfollowed := true, recurses := true, apart := false, narrowed := true }
def FanChecksUptoSaid : Prop := fanChecksUptoRow.holds Try.pinned (OpenSpec.upto fanChecksSpec)

/-- 'aigrettelaw04.FanPlaced', WHERE WHAT IT READS IS OF BULK AT MOST 1048576: true; the input reads as it did. -/
def fanPlacedUptoRow : OpenClaim := { program := "ytidfbhlhogkfmaa", sum := "bfcc60cda0b0b67e70695ac543d3f9a6a7063f61db4f69e3ffd1e916d6298100", func := "aigrette/aigrettelaw04.FanPlaced", spec := "fanPlaced", unfollowed := true, recurses := true, apart := false, narrowed := true }
def FanPlacedUptoSaid : Prop := fanPlacedUptoRow.holds Try.pinned (OpenSpec.upto fanPlacedSpec)

/-- 'aigrettelaw04.FanKnown', WHERE WHAT IT READS IS OF BULK AT MOST 1048576: true; the input reads as it did. -/
def fanKnownUptoRow : OpenClaim := { program := "ytidfbhlhogkfmaa", sum := "bfcc60cda0b0b67e70695ac543d3f9a6a7063f61db4f69e3ffd1e916d6298100", func := "aigrette/aigrettelaw04.FanKnown", spec := "fanKnown", unfollowed := true, recurses := true, apart := false, narrowed := true }
def FanKnownUptoSaid : Prop := fanKnownUptoRow.holds Try.pinned (OpenSpec.upto fanKnownSpec)

end Rows
end Go.Proofs.Ytidfbhlhogkfmaa
