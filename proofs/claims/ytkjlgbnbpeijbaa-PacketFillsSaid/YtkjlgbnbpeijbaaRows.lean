/-
  No cell of these rows narrows 'for every input' (looked for: loops, veiled, ifaces, maps, wideKeys, modest, calm, conditions, laid).
  DERIVED. THE GIVEN ROWS OF THIS SEAT. 12 by the template 'for every input the law returns true; each argument reads behind the call as it read before'; 0 by the template 'total and deterministic' (their statements: YtkjlgbnbpeijbaaTotals.lean).
  GIVEN WITH THE SEED: the statements are not yours to turn. If you find one false, say at which input.
  Laid BY PROGRAM, IN A SANDBOX (cutbox-rows.mjs): the forced cells as the released guide's own fill.sh prints them over the translation 0d0b4bc5784ed58b… (all of the seat's roots in one cut). By AI agents, Wed Nov 11 2026. No macro, syntax, notation, axiom, sorry.
-/
import Derived.Test.YtkjlgbnbpeijbaaChecked
import GoSem.Claim
import GoSem.ClaimJoined
import GoSem.ClaimMapViews
import Derived.JoinedTies
import Derived.KernelRfl
namespace Go.Proofs.Ytkjlgbnbpeijbaa
/- THE CELL 'sum', in the pinned program and in every row, IS THE sha256 OF THE DUMP (.gsa) THAT YtkjlgbnbpeijbaaProg.lean LOADS. Nothing in Lean hashes anything: it is a label: what it is worth is what the hold of that sum in a sandbox is worth. -/
noncomputable def Try.pinned : Pinned := { name := "ytkjlgbnbpeijbaa", sum := "0d0b4bc5784ed58be537221a284554ac063f8d1b35cddd889facf12d16133d14", checked := Try.checked }
namespace Rows
def none {H : Type} : Left H := { results := [], args := [] }

/-- 'aigrettelaw01.PacketMade': WHATEVER THE INPUT: true; the input reads as it did. -/
def packetMadeSpec : ChangeSpec := { name := "packetMade", fn := fun _ => fun
  | [d1, d2, d3] => { results := [.lit (.bool true)], args := [d1, d2, d3] }
  | _ => none }
def packetMadeRow : OpenClaim := { program := "ytkjlgbnbpeijbaa", sum := "0d0b4bc5784ed58be537221a284554ac063f8d1b35cddd889facf12d16133d14", func := "aigrette/aigrettelaw01.PacketMade", spec := "packetMade", unfollowed := true, recurses := true, apart := false }
def PacketMadeSaid : Prop := packetMadeRow.holds Try.pinned (OpenSpec.ofChange packetMadeSpec)

/-- ITS FALSE NEIGHBOUR: 'it returns false'. Refute it at one input. -/
def packetMadeWrong : ChangeSpec := { name := "packetMade", fn := fun _ => fun
  | [d1, d2, d3] => { results := [.lit (.bool false)], args := [d1, d2, d3] }
  | _ => none }
def PacketMadeWrongFalsely : Prop := packetMadeRow.holds Try.pinned (OpenSpec.ofChange packetMadeWrong)

/-- 'aigrettelaw01.PacketGaps': WHATEVER THE INPUT: true; the input reads as it did. -/
def packetGapsSpec : ChangeSpec := { name := "packetGaps", fn := fun _ => fun
  | [d] => { results := [.lit (.bool true)], args := [d] }
  | _ => none }
def packetGapsRow : OpenClaim := { program := "ytkjlgbnbpeijbaa", sum := "0d0b4bc5784ed58be537221a284554ac063f8d1b35cddd889facf12d16133d14", func := "aigrette/aigrettelaw01.PacketGaps", spec := "packetGaps", unfollowed := true, recurses := true, apart := false }
def PacketGapsSaid : Prop := packetGapsRow.holds Try.pinned (OpenSpec.ofChange packetGapsSpec)

/-- ITS FALSE NEIGHBOUR: 'it returns false'. Refute it at one input. -/
def packetGapsWrong : ChangeSpec := { name := "packetGaps", fn := fun _ => fun
  | [d] => { results := [.lit (.bool false)], args := [d] }
  | _ => none }
def PacketGapsWrongFalsely : Prop := packetGapsRow.holds Try.pinned (OpenSpec.ofChange packetGapsWrong)

/-- 'aigrettelaw01.PacketTotals': WHATEVER THE INPUT: true; the input reads as it did. -/
def packetTotalsSpec : ChangeSpec := { name := "packetTotals", fn := fun _ => fun
  | [d1, d2, d3, d4] => { results := [.lit (.bool true)], args := [d1, d2, d3, d4] }
  | _ => none }
def packetTotalsRow : OpenClaim := { program := "ytkjlgbnbpeijbaa", sum := "0d0b4bc5784ed58be537221a284554ac063f8d1b35cddd889facf12d16133d14", func := "aigrette/aigrettelaw01.PacketTotals", spec := "packetTotals", unfollowed := true, recurses := true, apart := false }
def PacketTotalsSaid : Prop := packetTotalsRow.holds Try.pinned (OpenSpec.ofChange packetTotalsSpec)

/-- ITS FALSE NEIGHBOUR: 'it returns false'. Refute it at one input. -/
def packetTotalsWrong : ChangeSpec := { name := "packetTotals", fn := fun _ => fun
  | [d1, d2, d3, d4] => { results := [.lit (.bool false)], args := [d1, d2, d3, d4] }
  | _ => none }
def PacketTotalsWrongFalsely : Prop := packetTotalsRow.holds Try.pinned (OpenSpec.ofChange packetTotalsWrong)

/-- 'aigrettelaw01.PacketCounted': WHATEVER THE INPUT: true; the input reads as it did. -/
def packetCountedSpec : ChangeSpec := { name := "packetCounted", fn := fun _ => fun
  | [d1, d2] => { results := [.lit (.bool true)], args := [d1, d2] }
  | _ => none }
def packetCountedRow : OpenClaim := { program := "ytkjlgbnbpeijbaa", sum := "0d0b4bc5784ed58be537221a284554ac063f8d1b35cddd889facf12d16133d14", func := "aigrette/aigrettelaw01.PacketCounted", spec := "packetCounted", unfollowed := true, recurses := true, apart := false }
def PacketCountedSaid : Prop := packetCountedRow.holds Try.pinned (OpenSpec.ofChange packetCountedSpec)

/-- ITS FALSE NEIGHBOUR: 'it returns false'. Refute it at one input. -/
def packetCountedWrong : ChangeSpec := { name := "packetCounted", fn := fun _ => fun
  | [d1, d2] => { results := [.lit (.bool false)], args := [d1, d2] }
  | _ => none }
def PacketCountedWrongFalsely : Prop := packetCountedRow.holds Try.pinned (OpenSpec.ofChange packetCountedWrong)

/-- 'aigrettelaw01.PacketMore': WHATEVER THE INPUT: true; the input reads as it did. -/
def packetMoreSpec : ChangeSpec := { name := "packetMore", fn := fun _ => fun
  | [d1, d2, d3, d4] => { results := [.lit (.bool true)], args := [d1, d2, d3, d4] }
  | _ => none }
def packetMoreRow : OpenClaim := { program := "ytkjlgbnbpeijbaa", sum := "0d0b4bc5784ed58be537221a284554ac063f8d1b35cddd889facf12d16133d14", func := "aigrette/aigrettelaw01.PacketMore", spec := "packetMore", unfollowed := true, recurses := true, apart := false }
def PacketMoreSaid : Prop := packetMoreRow.holds Try.pinned (OpenSpec.ofChange packetMoreSpec)

/-- ITS FALSE NEIGHBOUR: 'it returns false'. Refute it at one input. -/
def packetMoreWrong : ChangeSpec := { name := "packetMore", fn := fun _ => fun
  | [d1, d2, d3, d4] => { results := [.lit (.bool false)], args := [d1, d2, d3, d4] }
  | _ => none }
def PacketMoreWrongFalsely : Prop := packetMoreRow.holds Try.pinned (OpenSpec.ofChange packetMoreWrong)

/-- 'aigrettelaw01.PacketScaled': WHATEVER THE INPUT: true; the input reads as it did. -/
def packetScaledSpec : ChangeSpec := { name := "packetScaled", fn := fun _ => fun
  | [d1, d2, d3] => { results := [.lit (.bool true)], args := [d1, d2, d3] }
  | _ => none }
def packetScaledRow : OpenClaim := { program := "ytkjlgbnbpeijbaa", sum := "0d0b4bc5784ed58be537221a284554ac063f8d1b35cddd889facf12d16133d14", func := "aigrette/aigrettelaw01.PacketScaled", spec := "packetScaled", unfollowed := true, recurses := true, apart := false }
def PacketScaledSaid : Prop := packetScaledRow.holds Try.pinned (OpenSpec.ofChange packetScaledSpec)

/-- ITS FALSE NEIGHBOUR: 'it returns false'. Refute it at one input. -/
def packetScaledWrong : ChangeSpec := { name := "packetScaled", fn := fun _ => fun
  | [d1, d2, d3] => { results := [.lit (.bool false)], args := [d1, d2, d3] }
  | _ => none }
def PacketScaledWrongFalsely : Prop := packetScaledRow.holds Try.pinned (OpenSpec.ofChange packetScaledWrong)

/-- 'aigrettelaw01.PacketKnown': WHATEVER THE INPUT: true; the input reads as it did. -/
def packetKnownSpec : ChangeSpec := { name := "packetKnown", fn := fun _ => fun
  | [] => { results := [.lit (.bool true)], args := [] }
  | _ => none }
def packetKnownRow : OpenClaim := { program := "ytkjlgbnbpeijbaa", sum := "0d0b4bc5784ed58be537221a284554ac063f8d1b35cddd889facf12d16133d14", func := "aigrette/aigrettelaw01.PacketKnown", spec := "packetKnown", unfollowed := true, recurses := true, apart := false }
def PacketKnownSaid : Prop := packetKnownRow.holds Try.pinned (OpenSpec.ofChange packetKnownSpec)

/-- ITS FALSE NEIGHBOUR: 'it returns false'. Refute it at one input. -/
def packetKnownWrong : ChangeSpec := { name := "packetKnown", fn := fun _ => fun
  | [] => { results := [.lit (.bool false)], args := [] }
  | _ => none }
def PacketKnownWrongFalsely : Prop := packetKnownRow.holds Try.pinned (OpenSpec.ofChange packetKnownWrong)

/-- 'aigrettelaw01.PacketSylvester': WHATEVER THE INPUT: true; the input reads as it did. -/
def packetSylvesterSpec : ChangeSpec := { name := "packetSylvester", fn := fun _ => fun
  | [d1, d2] => { results := [.lit (.bool true)], args := [d1, d2] }
  | _ => none }
def packetSylvesterRow : OpenClaim := { program := "ytkjlgbnbpeijbaa", sum := "0d0b4bc5784ed58be537221a284554ac063f8d1b35cddd889facf12d16133d14", func := "aigrette/aigrettelaw01.PacketSylvester", spec := "packetSylvester", unfollowed := true, recurses := true, apart := false }
def PacketSylvesterSaid : Prop := packetSylvesterRow.holds Try.pinned (OpenSpec.ofChange packetSylvesterSpec)

/-- ITS FALSE NEIGHBOUR: 'it returns false'. Refute it at one input. -/
def packetSylvesterWrong : ChangeSpec := { name := "packetSylvester", fn := fun _ => fun
  | [d1, d2] => { results := [.lit (.bool false)], args := [d1, d2] }
  | _ => none }
def PacketSylvesterWrongFalsely : Prop := packetSylvesterRow.holds Try.pinned (OpenSpec.ofChange packetSylvesterWrong)

/-- 'aigrettelaw01.PacketRemainders': WHATEVER THE INPUT: true; the input reads as it did. -/
def packetRemaindersSpec : ChangeSpec := { name := "packetRemainders", fn := fun _ => fun
  | [d1, d2, d3] => { results := [.lit (.bool true)], args := [d1, d2, d3] }
  | _ => none }
def packetRemaindersRow : OpenClaim := { program := "ytkjlgbnbpeijbaa", sum := "0d0b4bc5784ed58be537221a284554ac063f8d1b35cddd889facf12d16133d14", func := "aigrette/aigrettelaw01.PacketRemainders", spec := "packetRemainders", unfollowed := true, recurses := true, apart := false }
def PacketRemaindersSaid : Prop := packetRemaindersRow.holds Try.pinned (OpenSpec.ofChange packetRemaindersSpec)

/-- ITS FALSE NEIGHBOUR: 'it returns false'. Refute it at one input. -/
def packetRemaindersWrong : ChangeSpec := { name := "packetRemainders", fn := fun _ => fun
  | [d1, d2, d3] => { results := [.lit (.bool false)], args := [d1, d2, d3] }
  | _ => none }
def PacketRemaindersWrongFalsely : Prop := packetRemaindersRow.holds Try.pinned (OpenSpec.ofChange packetRemaindersWrong)

/-- 'aigrettelaw01.PacketLess': WHATEVER THE INPUT: true; the input reads as it did. -/
def packetLessSpec : ChangeSpec := { name := "packetLess", fn := fun _ => fun
  | [d] => { results := [.lit (.bool true)], args := [d] }
  | _ => none }
def packetLessRow : OpenClaim := { program := "ytkjlgbnbpeijbaa", sum := "0d0b4bc5784ed58be537221a284554ac063f8d1b35cddd889facf12d16133d14", func := "aigrette/aigrettelaw01.PacketLess", spec := "packetLess", unfollowed := true, recurses := true, apart := false }
def PacketLessSaid : Prop := packetLessRow.holds Try.pinned (OpenSpec.ofChange packetLessSpec)

/-- ITS FALSE NEIGHBOUR: 'it returns false'. Refute it at one input. -/
def packetLessWrong : ChangeSpec := { name := "packetLess", fn := fun _ => fun
  | [d] => { results := [.lit (.bool false)], args := [d] }
  | _ => none }
def PacketLessWrongFalsely : Prop := packetLessRow.holds Try.pinned (OpenSpec.ofChange packetLessWrong)

/-- 'aigrettelaw01.PacketFills': WHATEVER THE INPUT: true; the input reads as it did. -/
def packetFillsSpec : ChangeSpec := { name := "packetFills", fn := fun _ => fun
  | [d1, d2, d3, d4] => { results := [.lit (.bool true)], args := [d1, d2, d3, d4] }
  | _ => none }
def packetFillsRow : OpenClaim := { program := "ytkjlgbnbpeijbaa", sum := "0d0b4bc5784ed58be537221a284554ac063f8d1b35cddd889facf12d16133d14", func := "aigrette/aigrettelaw01.PacketFills", spec := "packetFills", unfollowed := true, recurses := true, apart := false }
def PacketFillsSaid : Prop := packetFillsRow.holds Try.pinned (OpenSpec.ofChange packetFillsSpec)

/-- ITS FALSE NEIGHBOUR: 'it returns false'. Refute it at one input. -/
def packetFillsWrong : ChangeSpec := { name := "packetFills", fn := fun _ => fun
  | [d1, d2, d3, d4] => { results := [.lit (.bool false)], args := [d1, d2, d3, d4] }
  | _ => none }
def PacketFillsWrongFalsely : Prop := packetFillsRow.holds Try.pinned (OpenSpec.ofChange packetFillsWrong)

/-- 'aigrettelaw01.PacketBest': WHATEVER THE INPUT: true; the input reads as it did. -/
def packetBestSpec : ChangeSpec := { name := "packetBest", fn := fun _ => fun
  | [d1, d2] => { results := [.lit (.bool true)], args := [d1, d2] }
  | _ => none }
def packetBestRow : OpenClaim := { program := "ytkjlgbnbpeijbaa", sum := "0d0b4bc5784ed58be537221a284554ac063f8d1b35cddd889facf12d16133d14", func := "aigrette/aigrettelaw01.PacketBest", spec := "packetBest", unfollowed := true, recurses := true, apart := false }
def PacketBestSaid : Prop := packetBestRow.holds Try.pinned (OpenSpec.ofChange packetBestSpec)

/-- ITS FALSE NEIGHBOUR: 'it returns false'. Refute it at one input. -/
def packetBestWrong : ChangeSpec := { name := "packetBest", fn := fun _ => fun
  | [d1, d2] => { results := [.lit (.bool false)], args := [d1, d2] }
  | _ => none }
def PacketBestWrongFalsely : Prop := packetBestRow.holds Try.pinned (OpenSpec.ofChange packetBestWrong)

/- THE SECOND FORM. 'bulk': how many values and letters a reading holds, each counted each time it is reached (what is shared counts as often as it is met; a slice's spare places count too). A statement '..UptoSaid' is the law's where the arguments, and the package variables that the reading takes, are together of bulk at most 1048576: NARROWER than '..Said'. Prove '..Said' where nothing that the law and all that it calls make is longer than what came in: it says more and counts as full. Else prove '..UptoSaid'. A law counts once. -/
mutual
def uptoBulk {H : Type} : DataW H → Nat
  | .lit (.string bytes) => bytes.length + 1
  | .lit _ => 1
  | .nil => 1
  | .ptr d => uptoBulk d + 1
  | .slice elems spare => uptoBulkAll elems + uptoBulkAll spare + 1
  | .agg parts => uptoBulkAll parts + 1
  | .iface _ d => uptoBulk d + 1
  | .map entries => uptoBulkEntries entries + 1
  | .held _ => 1
def uptoBulkAll {H : Type} : List (DataW H) → Nat
  | [] => 0
  | d :: r => uptoBulk d + uptoBulkAll r
def uptoBulkEntries {H : Type} : List (Lit × DataW H) → Nat
  | [] => 0
  | x :: r => uptoBulkEntry x + uptoBulkEntries r
def uptoBulkEntry {H : Type} : Lit × DataW H → Nat
  | (.string bytes, d) => bytes.length + uptoBulk d + 1
  | (_, d) => uptoBulk d + 1
 end
def uptoSmall : (H : Type) → List (DataW H) → Bool := fun _ ds => decide (uptoBulkAll ds ≤ 1048576)
def OpenSpec.upto (s : _root_.Go.ChangeSpec) : _root_.Go.OpenSpec := { _root_.Go.OpenSpec.ofChange s with cond := some uptoSmall }

/-- 'aigrettelaw01.PacketMade', WHERE WHAT IT READS IS OF BULK AT MOST 1048576: true; the input reads as it did. -/
def packetMadeUptoRow : OpenClaim := { program := "ytkjlgbnbpeijbaa", sum := "0d0b4bc5784ed58be537221a284554ac063f8d1b35cddd889facf12d16133d14", func := "aigrette/aigrettelaw01.PacketMade", spec := "packetMade", unfollowed := true, recurses := true, apart := false, narrowed := true }
def PacketMadeUptoSaid : Prop := packetMadeUptoRow.holds Try.pinned (OpenSpec.upto packetMadeSpec)

/-- 'aigrettelaw01.PacketGaps', WHERE WHAT IT READS IS OF BULK AT MOST 1048576: true; the input reads as it did. -/
def packetGapsUptoRow : OpenClaim := { program := "ytkjlgbnbpeijbaa", sum := "0d0b4bc5784ed58be537221a284554ac063f8d1b35cddd889facf12d16133d14", func := "aigrette/aigrettelaw01.PacketGaps", spec := "packetGaps", unfollowed := true, recurses := true, apart := false, narrowed := true }
def PacketGapsUptoSaid : Prop := packetGapsUptoRow.holds Try.pinned (OpenSpec.upto packetGapsSpec)

/-- 'aigrettelaw01.PacketTotals', WHERE WHAT IT READS IS OF BULK AT MOST 1048576: true; the input reads as it did. -/
def packetTotalsUptoRow : OpenClaim := { program := "ytkjlgbnbpeijbaa", sum := "0d0b4bc5784ed58be537221a284554ac063f8d1b35cddd889facf12d16133d14", func := "aigrette/aigrettelaw01.PacketTotals", spec := "packetTotals", unfollowed := true, recurses := true, apart := false, narrowed := true }
def PacketTotalsUptoSaid : Prop := packetTotalsUptoRow.holds Try.pinned (OpenSpec.upto packetTotalsSpec)

/-- 'aigrettelaw01.PacketCounted', WHERE WHAT IT READS IS OF BULK AT MOST 1048576: true; the input reads as it did. -/
def packetCountedUptoRow : OpenClaim := { program := "ytkjlgbnbpeijbaa", sum := "0d0b4bc5784ed58be537221a284554ac063f8d1b35cddd889facf12d16133d14", func := "aigrette/aigrettelaw01.PacketCounted", spec := "packetCounted", unfollowed := true, recurses := true, apart := false, narrowed := true }
def PacketCountedUptoSaid : Prop := packetCountedUptoRow.holds Try.pinned (OpenSpec.upto packetCountedSpec)

/-- 'aigrettelaw01.PacketMore', WHERE WHAT IT READS IS OF BULK AT MOST 1048576: true; the input reads as it did. -/
def packetMoreUptoRow : OpenClaim := { program := "ytkjlgbnbpeijbaa", sum := "0d0b4bc5784ed58be537221a284554ac063f8d1b35cddd889facf12d16133d14", func := "aigrette/aigrettelaw01.PacketMore", spec := "packetMore", unfollowed := true, recurses := true, apart := false, narrowed := true }
def PacketMoreUptoSaid : Prop := packetMoreUptoRow.holds Try.pinned (OpenSpec.upto packetMoreSpec)

/-- 'aigrettelaw01.PacketScaled', WHERE WHAT IT READS IS OF BULK AT MOST 1048576: true; the input reads as it did. -/
def packetScaledUptoRow : OpenClaim := { program := "ytkjlgbnbpeijbaa", sum := "0d0b4bc5784ed58be537221a284554ac063f8d1b35cddd889facf12d16133d14", func := "aigrette/aigrettelaw01.PacketScaled", spec := "packetScaled", unfollowed := true, recurses := true, apart := false, narrowed := true }
def PacketScaledUptoSaid : Prop := packetScaledUptoRow.holds Try.pinned (OpenSpec.upto packetScaledSpec)

/-- 'aigrettelaw01.PacketKnown', WHERE WHAT IT READS IS OF BULK AT MOST 1048576: true; the input reads as it did. -/
def packetKnownUptoRow : OpenClaim := { program := "ytkjlgbnbpeijbaa", sum := "0d0b4bc5784ed58be537221a284554ac063f8d1b35cddd889facf12d16133d14", func := "aigrette/aigrettelaw01.PacketKnown", spec := "packetKnown", unfollowed := true, recurses := true, apart := false, narrowed := true }
def PacketKnownUptoSaid : Prop := packetKnownUptoRow.holds Try.pinned (OpenSpec.upto packetKnownSpec)

/-- 'aigrettelaw01.PacketSylvester', WHERE WHAT IT READS IS OF BULK AT MOST 1048576: true; the input reads as it did. -/
def packetSylvesterUptoRow : OpenClaim := { program := "ytkjlgbnbpeijbaa", sum := "0d0b4bc5784ed58be537221a284554ac063f8d1b35cddd889facf12d16133d14", func := "aigrette/aigrettelaw01.PacketSylvester", spec := "packetSylvester", unfollowed := true, recurses := true, apart := false, narrowed := true }
def PacketSylvesterUptoSaid : Prop := packetSylvesterUptoRow.holds Try.pinned (OpenSpec.upto packetSylvesterSpec)

/-- 'aigrettelaw01.PacketRemainders', WHERE WHAT IT READS IS OF BULK AT MOST 1048576: true; the input reads as it did. -/
def packetRemaindersUptoRow : OpenClaim := { program := "ytkjlgbnbpeijbaa", sum := "0d0b4bc5784ed58be537221a284554ac063f8d1b35cddd889facf12d16133d14", func := "aigrette/aigrettelaw01.PacketRemainders", spec := "packetRemainders", unfollowed := true, recurses := true, apart := false, narrowed := true }
def PacketRemaindersUptoSaid : Prop := packetRemaindersUptoRow.holds Try.pinned (OpenSpec.upto packetRemaindersSpec)

/-- 'aigrettelaw01.PacketLess', WHERE WHAT IT READS IS OF BULK AT MOST 1048576: true; the input reads as it did. -/
def packetLessUptoRow : OpenClaim := { program := "ytkjlgbnbpeijbaa", sum := "0d0b4bc5784ed58be537221a284554ac063f8d1b35cddd889facf12d16133d14", func := "aigrette/aigrettelaw01.PacketLess", spec := "packetLess", unfollowed := true, recurses := true, apart := false, narrowed := true }
def PacketLessUptoSaid : Prop := packetLessUptoRow.holds Try.pinned (OpenSpec.upto packetLessSpec)

/-- 'aigrettelaw01.PacketFills', WHERE WHAT IT READS IS OF BULK AT MOST 1048576: true; the input reads as it did. -/
def packetFillsUptoRow : OpenClaim := { program := "ytkjlgbnbpeijbaa", sum := "0d0b4bc5784ed58be537221a284554ac063f8d1b35cddd889facf12d16133d14", func := "aigrette/aigrettelaw01.PacketFills", spec := "packetFills", unfollowed := true, recurses := true, apart := false, narrowed := true }
def PacketFillsUptoSaid : Prop := packetFillsUptoRow.holds Try.pinned (OpenSpec.upto packetFillsSpec)

/-- 'aigrettelaw01.PacketBest', WHERE WHAT IT READS IS OF BULK AT MOST 1048576: true; the input reads as it did. -/
def packetBestUptoRow : OpenClaim := { program := "ytkjlgbnbpeijbaa", sum := "0d0b4bc5784ed58be537221a284554ac063f8d1b35cddd889facf12d16133d14", func := "aigrette/aigrettelaw01.PacketBest", spec := "packetBest", unfollowed := true, recurses := true, apart := false, narrowed := true }
def PacketBestUptoSaid : Prop := packetBestUptoRow.holds Try.pinned (OpenSpec.upto packetBestSpec)

end Rows
end Go.Proofs.Ytkjlgbnbpeijbaa
