/-
  NARROWER THAN 'FOR EVERY INPUT', by the rows' own cells (each row's printed sentence says how): HatCodes: laid · HatPerfect: laid · HatLost: laid · HatRight: laid · HatHamming: laid · HatMore: laid · HatPlays: laid · HatKnown: laid · HatCover: laid · HatSmallest: laid · HatNamed: laid.
  DERIVED. THE GIVEN ROWS OF THIS SEAT. 11 by the template 'for every input the law returns true; each argument reads behind the call as it read before'; 0 by the template 'total and deterministic' (their statements: YtmkejpdmaclkpaaDoorTotals.lean).
  GIVEN WITH THE SEED: the statements are not yours to turn. If you find one false, say at which input.
  Laid BY PROGRAM, IN A SANDBOX (cutbox-rows.mjs): the forced cells as the released guide's own fill.sh prints them over the translation e6f824f319f8ba5d… (all of the seat's roots in one cut). By AI agents, Wed Nov 11 2026. No macro, syntax, notation, axiom, sorry.
-/
import Derived.Test.YtmkejpdmaclkpaaDoorChecked
import GoSem.Claim
import GoSem.ClaimJoined
import GoSem.ClaimMapViews
import Derived.JoinedTies
import Derived.KernelRfl
namespace Go.Proofs.YtmkejpdmaclkpaaDoor
/- THE CELL 'sum', in the pinned program and in every row, IS THE sha256 OF THE DUMP (.gsa) THAT YtmkejpdmaclkpaaDoorProg.lean LOADS. Nothing in Lean hashes anything: it is a label: what it is worth is what the hold of that sum in a sandbox is worth. -/
noncomputable def Tryd.pinned : Pinned := { name := "ytmkejpdmaclkpaadoor", sum := "e6f824f319f8ba5d53093e0da370de0e08797c2a37444fa539ffbbbf184ddf7e", checked := Tryd.checked }
namespace Rows
def none {H : Type} : Left H := { results := [], args := [] }

/- WHAT THE LISTED PACKAGE-LEVEL VARIABLES READ AS WHEN THE CALL BEGINS. Each datum BY PROGRAM (the guide's laid-datum.mjs) off the statement by which the dump's own 'gosem.cut.vars' lays the variable. In a bare row this is a premise. The card (YtmkejpdmaclkpaaDoorCards.lean) ties it to the program's text. -/
def laid_math_bits_deBruijn32tab {H : Type} : DataW H := .agg [.lit (.int .u8 0), .lit (.int .u8 1), .lit (.int .u8 28), .lit (.int .u8 2), .lit (.int .u8 29), .lit (.int .u8 14), .lit (.int .u8 24), .lit (.int .u8 3), .lit (.int .u8 30), .lit (.int .u8 22), .lit (.int .u8 20), .lit (.int .u8 15), .lit (.int .u8 25), .lit (.int .u8 17), .lit (.int .u8 4), .lit (.int .u8 8), .lit (.int .u8 31), .lit (.int .u8 27), .lit (.int .u8 13), .lit (.int .u8 23), .lit (.int .u8 21), .lit (.int .u8 19), .lit (.int .u8 16), .lit (.int .u8 7), .lit (.int .u8 26), .lit (.int .u8 12), .lit (.int .u8 18), .lit (.int .u8 6), .lit (.int .u8 11), .lit (.int .u8 5), .lit (.int .u8 10), .lit (.int .u8 9)]
def laid_math_bits_deBruijn64tab {H : Type} : DataW H := .agg [.lit (.int .u8 0), .lit (.int .u8 1), .lit (.int .u8 56), .lit (.int .u8 2), .lit (.int .u8 57), .lit (.int .u8 49), .lit (.int .u8 28), .lit (.int .u8 3), .lit (.int .u8 61), .lit (.int .u8 58), .lit (.int .u8 42), .lit (.int .u8 50), .lit (.int .u8 38), .lit (.int .u8 29), .lit (.int .u8 17), .lit (.int .u8 4), .lit (.int .u8 62), .lit (.int .u8 47), .lit (.int .u8 59), .lit (.int .u8 36), .lit (.int .u8 45), .lit (.int .u8 43), .lit (.int .u8 51), .lit (.int .u8 22), .lit (.int .u8 53), .lit (.int .u8 39), .lit (.int .u8 33), .lit (.int .u8 30), .lit (.int .u8 24), .lit (.int .u8 18), .lit (.int .u8 12), .lit (.int .u8 5), .lit (.int .u8 63), .lit (.int .u8 55), .lit (.int .u8 48), .lit (.int .u8 27), .lit (.int .u8 60), .lit (.int .u8 41), .lit (.int .u8 37), .lit (.int .u8 16), .lit (.int .u8 46), .lit (.int .u8 35), .lit (.int .u8 44), .lit (.int .u8 21), .lit (.int .u8 52), .lit (.int .u8 32), .lit (.int .u8 23), .lit (.int .u8 11), .lit (.int .u8 54), .lit (.int .u8 26), .lit (.int .u8 40), .lit (.int .u8 15), .lit (.int .u8 34), .lit (.int .u8 20), .lit (.int .u8 31), .lit (.int .u8 10), .lit (.int .u8 25), .lit (.int .u8 14), .lit (.int .u8 19), .lit (.int .u8 9), .lit (.int .u8 13), .lit (.int .u8 8), .lit (.int .u8 7), .lit (.int .u8 6)]

/-- 'aigrettelaw10.HatCodes': WHATEVER THE INPUT: true; the input reads as it did. -/
def hatCodesSpec : ChangeSpec := { name := "hatCodes", fn := fun _ => fun
  | [d1, d2] => { results := [.lit (.bool true)], args := [d1, d2] }
  | _ => none }
def hatCodesRow : OpenClaim := { program := "ytmkejpdmaclkpaadoor", sum := "e6f824f319f8ba5d53093e0da370de0e08797c2a37444fa539ffbbbf184ddf7e", func := "aigrette/aigrettelaw10.HatCodes", spec := "hatCodes", unfollowed := true, recurses := true, named := ["math/bits.deBruijn32tab", "math/bits.deBruijn64tab"], apart := false, laid := [("math/bits.deBruijn32tab", laid_math_bits_deBruijn32tab), ("math/bits.deBruijn64tab", laid_math_bits_deBruijn64tab)] }
def HatCodesSaid : Prop := hatCodesRow.holds Tryd.pinned (OpenSpec.ofChange hatCodesSpec)

/-- ITS FALSE NEIGHBOUR: 'it returns false'. Refute it at one input. -/
def hatCodesWrong : ChangeSpec := { name := "hatCodes", fn := fun _ => fun
  | [d1, d2] => { results := [.lit (.bool false)], args := [d1, d2] }
  | _ => none }
def HatCodesWrongFalsely : Prop := hatCodesRow.holds Tryd.pinned (OpenSpec.ofChange hatCodesWrong)

/-- 'aigrettelaw10.HatPerfect': WHATEVER THE INPUT: true; the input reads as it did. -/
def hatPerfectSpec : ChangeSpec := { name := "hatPerfect", fn := fun _ => fun
  | [d1, d2] => { results := [.lit (.bool true)], args := [d1, d2] }
  | _ => none }
def hatPerfectRow : OpenClaim := { program := "ytmkejpdmaclkpaadoor", sum := "e6f824f319f8ba5d53093e0da370de0e08797c2a37444fa539ffbbbf184ddf7e", func := "aigrette/aigrettelaw10.HatPerfect", spec := "hatPerfect", unfollowed := true, recurses := true, named := ["math/bits.deBruijn32tab", "math/bits.deBruijn64tab"], apart := false, laid := [("math/bits.deBruijn32tab", laid_math_bits_deBruijn32tab), ("math/bits.deBruijn64tab", laid_math_bits_deBruijn64tab)] }
def HatPerfectSaid : Prop := hatPerfectRow.holds Tryd.pinned (OpenSpec.ofChange hatPerfectSpec)

/-- ITS FALSE NEIGHBOUR: 'it returns false'. Refute it at one input. -/
def hatPerfectWrong : ChangeSpec := { name := "hatPerfect", fn := fun _ => fun
  | [d1, d2] => { results := [.lit (.bool false)], args := [d1, d2] }
  | _ => none }
def HatPerfectWrongFalsely : Prop := hatPerfectRow.holds Tryd.pinned (OpenSpec.ofChange hatPerfectWrong)

/-- 'aigrettelaw10.HatLost': WHATEVER THE INPUT: true; the input reads as it did. -/
def hatLostSpec : ChangeSpec := { name := "hatLost", fn := fun _ => fun
  | [d] => { results := [.lit (.bool true)], args := [d] }
  | _ => none }
def hatLostRow : OpenClaim := { program := "ytmkejpdmaclkpaadoor", sum := "e6f824f319f8ba5d53093e0da370de0e08797c2a37444fa539ffbbbf184ddf7e", func := "aigrette/aigrettelaw10.HatLost", spec := "hatLost", unfollowed := true, recurses := true, named := ["math/bits.deBruijn32tab", "math/bits.deBruijn64tab"], apart := false, laid := [("math/bits.deBruijn32tab", laid_math_bits_deBruijn32tab), ("math/bits.deBruijn64tab", laid_math_bits_deBruijn64tab)] }
def HatLostSaid : Prop := hatLostRow.holds Tryd.pinned (OpenSpec.ofChange hatLostSpec)

/-- ITS FALSE NEIGHBOUR: 'it returns false'. Refute it at one input. -/
def hatLostWrong : ChangeSpec := { name := "hatLost", fn := fun _ => fun
  | [d] => { results := [.lit (.bool false)], args := [d] }
  | _ => none }
def HatLostWrongFalsely : Prop := hatLostRow.holds Tryd.pinned (OpenSpec.ofChange hatLostWrong)

/-- 'aigrettelaw10.HatRight': WHATEVER THE INPUT: true; the input reads as it did. -/
def hatRightSpec : ChangeSpec := { name := "hatRight", fn := fun _ => fun
  | [d] => { results := [.lit (.bool true)], args := [d] }
  | _ => none }
def hatRightRow : OpenClaim := { program := "ytmkejpdmaclkpaadoor", sum := "e6f824f319f8ba5d53093e0da370de0e08797c2a37444fa539ffbbbf184ddf7e", func := "aigrette/aigrettelaw10.HatRight", spec := "hatRight", unfollowed := true, recurses := true, named := ["math/bits.deBruijn32tab", "math/bits.deBruijn64tab"], apart := false, laid := [("math/bits.deBruijn32tab", laid_math_bits_deBruijn32tab), ("math/bits.deBruijn64tab", laid_math_bits_deBruijn64tab)] }
def HatRightSaid : Prop := hatRightRow.holds Tryd.pinned (OpenSpec.ofChange hatRightSpec)

/-- ITS FALSE NEIGHBOUR: 'it returns false'. Refute it at one input. -/
def hatRightWrong : ChangeSpec := { name := "hatRight", fn := fun _ => fun
  | [d] => { results := [.lit (.bool false)], args := [d] }
  | _ => none }
def HatRightWrongFalsely : Prop := hatRightRow.holds Tryd.pinned (OpenSpec.ofChange hatRightWrong)

/-- 'aigrettelaw10.HatHamming': WHATEVER THE INPUT: true; the input reads as it did. -/
def hatHammingSpec : ChangeSpec := { name := "hatHamming", fn := fun _ => fun
  | [d1, d2, d3] => { results := [.lit (.bool true)], args := [d1, d2, d3] }
  | _ => none }
def hatHammingRow : OpenClaim := { program := "ytmkejpdmaclkpaadoor", sum := "e6f824f319f8ba5d53093e0da370de0e08797c2a37444fa539ffbbbf184ddf7e", func := "aigrette/aigrettelaw10.HatHamming", spec := "hatHamming", unfollowed := true, recurses := true, named := ["math/bits.deBruijn32tab", "math/bits.deBruijn64tab"], apart := false, laid := [("math/bits.deBruijn32tab", laid_math_bits_deBruijn32tab), ("math/bits.deBruijn64tab", laid_math_bits_deBruijn64tab)] }
def HatHammingSaid : Prop := hatHammingRow.holds Tryd.pinned (OpenSpec.ofChange hatHammingSpec)

/-- ITS FALSE NEIGHBOUR: 'it returns false'. Refute it at one input. -/
def hatHammingWrong : ChangeSpec := { name := "hatHamming", fn := fun _ => fun
  | [d1, d2, d3] => { results := [.lit (.bool false)], args := [d1, d2, d3] }
  | _ => none }
def HatHammingWrongFalsely : Prop := hatHammingRow.holds Tryd.pinned (OpenSpec.ofChange hatHammingWrong)

/-- 'aigrettelaw10.HatMore': WHATEVER THE INPUT: true; the input reads as it did. -/
def hatMoreSpec : ChangeSpec := { name := "hatMore", fn := fun _ => fun
  | [d1, d2, d3] => { results := [.lit (.bool true)], args := [d1, d2, d3] }
  | _ => none }
def hatMoreRow : OpenClaim := { program := "ytmkejpdmaclkpaadoor", sum := "e6f824f319f8ba5d53093e0da370de0e08797c2a37444fa539ffbbbf184ddf7e", func := "aigrette/aigrettelaw10.HatMore", spec := "hatMore", unfollowed := true, recurses := true, named := ["math/bits.deBruijn32tab", "math/bits.deBruijn64tab"], apart := false, laid := [("math/bits.deBruijn32tab", laid_math_bits_deBruijn32tab), ("math/bits.deBruijn64tab", laid_math_bits_deBruijn64tab)] }
def HatMoreSaid : Prop := hatMoreRow.holds Tryd.pinned (OpenSpec.ofChange hatMoreSpec)

/-- ITS FALSE NEIGHBOUR: 'it returns false'. Refute it at one input. -/
def hatMoreWrong : ChangeSpec := { name := "hatMore", fn := fun _ => fun
  | [d1, d2, d3] => { results := [.lit (.bool false)], args := [d1, d2, d3] }
  | _ => none }
def HatMoreWrongFalsely : Prop := hatMoreRow.holds Tryd.pinned (OpenSpec.ofChange hatMoreWrong)

/-- 'aigrettelaw10.HatPlays': WHATEVER THE INPUT: true; the input reads as it did. -/
def hatPlaysSpec : ChangeSpec := { name := "hatPlays", fn := fun _ => fun
  | [d1, d2, d3] => { results := [.lit (.bool true)], args := [d1, d2, d3] }
  | _ => none }
def hatPlaysRow : OpenClaim := { program := "ytmkejpdmaclkpaadoor", sum := "e6f824f319f8ba5d53093e0da370de0e08797c2a37444fa539ffbbbf184ddf7e", func := "aigrette/aigrettelaw10.HatPlays", spec := "hatPlays", unfollowed := true, recurses := true, named := ["math/bits.deBruijn32tab", "math/bits.deBruijn64tab"], apart := false, laid := [("math/bits.deBruijn32tab", laid_math_bits_deBruijn32tab), ("math/bits.deBruijn64tab", laid_math_bits_deBruijn64tab)] }
def HatPlaysSaid : Prop := hatPlaysRow.holds Tryd.pinned (OpenSpec.ofChange hatPlaysSpec)

/-- ITS FALSE NEIGHBOUR: 'it returns false'. Refute it at one input. -/
def hatPlaysWrong : ChangeSpec := { name := "hatPlays", fn := fun _ => fun
  | [d1, d2, d3] => { results := [.lit (.bool false)], args := [d1, d2, d3] }
  | _ => none }
def HatPlaysWrongFalsely : Prop := hatPlaysRow.holds Tryd.pinned (OpenSpec.ofChange hatPlaysWrong)

/-- 'aigrettelaw10.HatKnown': WHATEVER THE INPUT: true; the input reads as it did. -/
def hatKnownSpec : ChangeSpec := { name := "hatKnown", fn := fun _ => fun
  | [] => { results := [.lit (.bool true)], args := [] }
  | _ => none }
def hatKnownRow : OpenClaim := { program := "ytmkejpdmaclkpaadoor", sum := "e6f824f319f8ba5d53093e0da370de0e08797c2a37444fa539ffbbbf184ddf7e", func := "aigrette/aigrettelaw10.HatKnown", spec := "hatKnown", unfollowed := true, recurses := true, named := ["math/bits.deBruijn32tab", "math/bits.deBruijn64tab"], apart := false, laid := [("math/bits.deBruijn32tab", laid_math_bits_deBruijn32tab), ("math/bits.deBruijn64tab", laid_math_bits_deBruijn64tab)] }
def HatKnownSaid : Prop := hatKnownRow.holds Tryd.pinned (OpenSpec.ofChange hatKnownSpec)

/-- ITS FALSE NEIGHBOUR: 'it returns false'. Refute it at one input. -/
def hatKnownWrong : ChangeSpec := { name := "hatKnown", fn := fun _ => fun
  | [] => { results := [.lit (.bool false)], args := [] }
  | _ => none }
def HatKnownWrongFalsely : Prop := hatKnownRow.holds Tryd.pinned (OpenSpec.ofChange hatKnownWrong)

/-- 'aigrettelaw10.HatCover': WHATEVER THE INPUT: true; the input reads as it did. -/
def hatCoverSpec : ChangeSpec := { name := "hatCover", fn := fun _ => fun
  | [d1, d2] => { results := [.lit (.bool true)], args := [d1, d2] }
  | _ => none }
def hatCoverRow : OpenClaim := { program := "ytmkejpdmaclkpaadoor", sum := "e6f824f319f8ba5d53093e0da370de0e08797c2a37444fa539ffbbbf184ddf7e", func := "aigrette/aigrettelaw10.HatCover", spec := "hatCover", unfollowed := true, recurses := true, named := ["math/bits.deBruijn32tab", "math/bits.deBruijn64tab"], apart := false, laid := [("math/bits.deBruijn32tab", laid_math_bits_deBruijn32tab), ("math/bits.deBruijn64tab", laid_math_bits_deBruijn64tab)] }
def HatCoverSaid : Prop := hatCoverRow.holds Tryd.pinned (OpenSpec.ofChange hatCoverSpec)

/-- ITS FALSE NEIGHBOUR: 'it returns false'. Refute it at one input. -/
def hatCoverWrong : ChangeSpec := { name := "hatCover", fn := fun _ => fun
  | [d1, d2] => { results := [.lit (.bool false)], args := [d1, d2] }
  | _ => none }
def HatCoverWrongFalsely : Prop := hatCoverRow.holds Tryd.pinned (OpenSpec.ofChange hatCoverWrong)

/-- 'aigrettelaw10.HatSmallest': WHATEVER THE INPUT: true; the input reads as it did. -/
def hatSmallestSpec : ChangeSpec := { name := "hatSmallest", fn := fun _ => fun
  | [d] => { results := [.lit (.bool true)], args := [d] }
  | _ => none }
def hatSmallestRow : OpenClaim := { program := "ytmkejpdmaclkpaadoor", sum := "e6f824f319f8ba5d53093e0da370de0e08797c2a37444fa539ffbbbf184ddf7e", func := "aigrette/aigrettelaw10.HatSmallest", spec := "hatSmallest", unfollowed := true, recurses := true, named := ["math/bits.deBruijn32tab", "math/bits.deBruijn64tab"], apart := false, laid := [("math/bits.deBruijn32tab", laid_math_bits_deBruijn32tab), ("math/bits.deBruijn64tab", laid_math_bits_deBruijn64tab)] }
def HatSmallestSaid : Prop := hatSmallestRow.holds Tryd.pinned (OpenSpec.ofChange hatSmallestSpec)

/-- ITS FALSE NEIGHBOUR: 'it returns false'. Refute it at one input. -/
def hatSmallestWrong : ChangeSpec := { name := "hatSmallest", fn := fun _ => fun
  | [d] => { results := [.lit (.bool false)], args := [d] }
  | _ => none }
def HatSmallestWrongFalsely : Prop := hatSmallestRow.holds Tryd.pinned (OpenSpec.ofChange hatSmallestWrong)

/-- 'aigrettelaw10.HatNamed': WHATEVER THE INPUT: true; the input reads as it did. -/
def hatNamedSpec : ChangeSpec := { name := "hatNamed", fn := fun _ => fun
  | [d1, d2, d3] => { results := [.lit (.bool true)], args := [d1, d2, d3] }
  | _ => none }
def hatNamedRow : OpenClaim := { program := "ytmkejpdmaclkpaadoor", sum := "e6f824f319f8ba5d53093e0da370de0e08797c2a37444fa539ffbbbf184ddf7e", func := "aigrette/aigrettelaw10.HatNamed", spec := "hatNamed", unfollowed := true, recurses := true, named := ["math/bits.deBruijn32tab", "math/bits.deBruijn64tab"], apart := false, laid := [("math/bits.deBruijn32tab", laid_math_bits_deBruijn32tab), ("math/bits.deBruijn64tab", laid_math_bits_deBruijn64tab)] }
def HatNamedSaid : Prop := hatNamedRow.holds Tryd.pinned (OpenSpec.ofChange hatNamedSpec)

/-- ITS FALSE NEIGHBOUR: 'it returns false'. Refute it at one input. -/
def hatNamedWrong : ChangeSpec := { name := "hatNamed", fn := fun _ => fun
  | [d1, d2, d3] => { results := [.lit (.bool false)], args := [d1, d2, d3] }
  | _ => none }
def HatNamedWrongFalsely : Prop := hatNamedRow.holds Tryd.pinned (OpenSpec.ofChange hatNamedWrong)

/- THE SECOND FORM. 'bulk': how many values and letters a reading holds, each counted each time it is reached (what is shared counts as often as it is met; a slice's spare places count too). A statement '..UptoSaid' is the law's where the arguments, and the package variables that the reading takes, are together of bulk at most 1048576: NARROWER than '..Said'. Prove '..Said' where nothing that the law and all that it calls make is longer than what came in: it says more and counts as full. Else prove '..UptoSaid'. A law counts once. -/
mutual
def uptoBulk {H : Type} : DataW H → Nat
  | .lit (.string bytes) => bytes.length + 1
  | .lit _ => 1
  | .nil => 1
  | .ptr d => uptoBulk d + 1
  | .slice elems spare => uptoBulkAll elems + uptoBulkAll spare + 1
  | .agg parts => uptoBulkAll parts + 1
  | .iface _ d => uptoBulk d + 1
  | .map entries => uptoBulkEntries entries + 1
  | .held _ => 1
def uptoBulkAll {H : Type} : List (DataW H) → Nat
  | [] => 0
  | d :: r => uptoBulk d + uptoBulkAll r
def uptoBulkEntries {H : Type} : List (Lit × DataW H) → Nat
  | [] => 0
  | x :: r => uptoBulkEntry x + uptoBulkEntries r
def uptoBulkEntry {H : Type} : Lit × DataW H → Nat
  | (.string bytes, d) => bytes.length + uptoBulk d + 1
  | (_, d) => uptoBulk d + 1
 end
def uptoSmall : (H : Type) → List (DataW H) → Bool := fun _ ds => decide (uptoBulkAll ds ≤ 1048576)
def OpenSpec.upto (s : _root_.Go.ChangeSpec) : _root_.Go.OpenSpec := { _root_.Go.OpenSpec.ofChange s with cond := some uptoSmall }

/-- 'aigrettelaw10.HatCodes', WHERE WHAT IT READS IS OF BULK AT MOST 1048576: true; the input reads as it did. -/
def hatCodesUptoRow : OpenClaim := { program := "ytmkejpdmaclkpaadoor", sum := "e6f824f319f8ba5d53093e0da370de0e08797c2a37444fa539ffbbbf184ddf7e", func := "aigrette/aigrettelaw10.HatCodes", spec := "hatCodes", unfollowed := true, recurses := true, named := ["math/bits.deBruijn32tab", "math/bits.deBruijn64tab"], apart := false, laid := [("math/bits.deBruijn32tab", laid_math_bits_deBruijn32tab), ("math/bits.deBruijn64tab", laid_math_bits_deBruijn64tab)], narrowed := true }
def HatCodesUptoSaid : Prop := hatCodesUptoRow.holds Tryd.pinned (OpenSpec.upto hatCodesSpec)

/-- 'aigrettelaw10.HatPerfect', WHERE WHAT IT READS IS OF BULK AT MOST 1048576: true; the input reads as it did. -/
def hatPerfectUptoRow : OpenClaim := { program := "ytmkejpdmaclkpaadoor", sum := "e6f824f319f8ba5d53093e0da370de0e08797c2a37444fa539ffbbbf184ddf7e", func := "aigrette/aigrettelaw10.HatPerfect", spec := "hatPerfect", unfollowed := true, recurses := true, named := ["math/bits.deBruijn32tab", "math/bits.deBruijn64tab"], apart := false, laid := [("math/bits.deBruijn32tab", laid_math_bits_deBruijn32tab), ("math/bits.deBruijn64tab", laid_math_bits_deBruijn64tab)], narrowed := true }
def HatPerfectUptoSaid : Prop := hatPerfectUptoRow.holds Tryd.pinned (OpenSpec.upto hatPerfectSpec)

/-- 'aigrettelaw10.HatLost', WHERE WHAT IT READS IS OF BULK AT MOST 1048576: true; the input reads as it did. -/
def hatLostUptoRow : OpenClaim := { program := "ytmkejpdmaclkpaadoor", sum := "e6f824f319f8ba5d53093e0da370de0e08797c2a37444fa539ffbbbf184ddf7e", func := "aigrette/aigrettelaw10.HatLost", spec := "hatLost", unfollowed := true, recurses := true, named := ["math/bits.deBruijn32tab", "math/bits.deBruijn64tab"], apart := false, laid := [("math/bits.deBruijn32tab", laid_math_bits_deBruijn32tab), ("math/bits.deBruijn64tab", laid_math_bits_deBruijn64tab)], narrowed := true }
def HatLostUptoSaid : Prop := hatLostUptoRow.holds Tryd.pinned (OpenSpec.upto hatLostSpec)

/-- 'aigrettelaw10.HatRight', WHERE WHAT IT READS IS OF BULK AT MOST 1048576: true; the input reads as it did. -/
def hatRightUptoRow : OpenClaim := { program := "ytmkejpdmaclkpaadoor", sum := "e6f824f319f8ba5d53093e0da370de0e08797c2a37444fa539ffbbbf184ddf7e", func := "aigrette/aigrettelaw10.HatRight", spec := "hatRight", unfollowed := true, recurses := true, named := ["math/bits.deBruijn32tab", "math/bits.deBruijn64tab"], apart := false, laid := [("math/bits.deBruijn32tab", laid_math_bits_deBruijn32tab), ("math/bits.deBruijn64tab", laid_math_bits_deBruijn64tab)], narrowed := true }
def HatRightUptoSaid : Prop := hatRightUptoRow.holds Tryd.pinned (OpenSpec.upto hatRightSpec)

/-- 'aigrettelaw10.HatHamming', WHERE WHAT IT READS IS OF BULK AT MOST 1048576: true; the input reads as it did. -/
def hatHammingUptoRow : OpenClaim := { program := "ytmkejpdmaclkpaadoor", sum := "e6f824f319f8ba5d53093e0da370de0e08797c2a37444fa539ffbbbf184ddf7e", func := "aigrette/aigrettelaw10.HatHamming", spec := "hatHamming", unfollowed := true, recurses := true, named := ["math/bits.deBruijn32tab", "math/bits.deBruijn64tab"], apart := false, laid := [("math/bits.deBruijn32tab", laid_math_bits_deBruijn32tab), ("math/bits.deBruijn64tab", laid_math_bits_deBruijn64tab)], narrowed := true }
def HatHammingUptoSaid : Prop := hatHammingUptoRow.holds Tryd.pinned (OpenSpec.upto hatHammingSpec)

/-- 'aigrettelaw10.HatMore', WHERE WHAT IT READS IS OF BULK AT MOST 1048576: true; the input reads as it did. -/
def hatMoreUptoRow : OpenClaim := { program := "ytmkejpdmaclkpaadoor", sum := "e6f824f319f8ba5d53093e0da370de0e08797c2a37444fa539ffbbbf184ddf7e", func := "aigrette/aigrettelaw10.HatMore", spec := "hatMore", unfollowed := true, recurses := true, named := ["math/bits.deBruijn32tab", "math/bits.deBruijn64tab"], apart := false, laid := [("math/bits.deBruijn32tab", laid_math_bits_deBruijn32tab), ("math/bits.deBruijn64tab", laid_math_bits_deBruijn64tab)], narrowed := true }
def HatMoreUptoSaid : Prop := hatMoreUptoRow.holds Tryd.pinned (OpenSpec.upto hatMoreSpec)

/-- 'aigrettelaw10.HatPlays', WHERE WHAT IT READS IS OF BULK AT MOST 1048576: true; the input reads as it did. -/
def hatPlaysUptoRow : OpenClaim := { program := "ytmkejpdmaclkpaadoor", sum := "e6f824f319f8ba5d53093e0da370de0e08797c2a37444fa539ffbbbf184ddf7e", func := "aigrette/aigrettelaw10.HatPlays", spec := "hatPlays", unfollowed := true, recurses := true, named := ["math/bits.deBruijn32tab", "math/bits.deBruijn64tab"], apart := false, laid := [("math/bits.deBruijn32tab", laid_math_bits_deBruijn32tab), ("math/bits.deBruijn64tab", laid_math_bits_deBruijn64tab)], narrowed := true }
def HatPlaysUptoSaid : Prop := hatPlaysUptoRow.holds Tryd.pinned (OpenSpec.upto hatPlaysSpec)

/-- 'aigrettelaw10.HatKnown', WHERE WHAT IT READS IS OF BULK AT MOST 1048576: true; the input reads as it did. -/
def hatKnownUptoRow : OpenClaim := { program := "ytmkejpdmaclkpaadoor", sum := "e6f824f319f8ba5d53093e0da370de0e08797c2a37444fa539ffbbbf184ddf7e", func := "aigrette/aigrettelaw10.HatKnown", spec := "hatKnown", unfollowed := true, recurses := true, named := ["math/bits.deBruijn32tab", "math/bits.deBruijn64tab"], apart := false, laid := [("math/bits.deBruijn32tab", laid_math_bits_deBruijn32tab), ("math/bits.deBruijn64tab", laid_math_bits_deBruijn64tab)], narrowed := true }
def HatKnownUptoSaid : Prop := hatKnownUptoRow.holds Tryd.pinned (OpenSpec.upto hatKnownSpec)

/-- 'aigrettelaw10.HatCover', WHERE WHAT IT READS IS OF BULK AT MOST 1048576: true; the input reads as it did. -/
def hatCoverUptoRow : OpenClaim := { program := "ytmkejpdmaclkpaadoor", sum := "e6f824f319f8ba5d53093e0da370de0e08797c2a37444fa539ffbbbf184ddf7e", func := "aigrette/aigrettelaw10.HatCover", spec := "hatCover", unfollowed := true, recurses := true, named := ["math/bits.deBruijn32tab", "math/bits.deBruijn64tab"], apart := false, laid := [("math/bits.deBruijn32tab", laid_math_bits_deBruijn32tab), ("math/bits.deBruijn64tab", laid_math_bits_deBruijn64tab)], narrowed := true }
def HatCoverUptoSaid : Prop := hatCoverUptoRow.holds Tryd.pinned (OpenSpec.upto hatCoverSpec)

/-- 'aigrettelaw10.HatSmallest', WHERE WHAT IT READS IS OF BULK AT MOST 1048576: true; the input reads as it did. -/
def hatSmallestUptoRow : OpenClaim := { program := "ytmkejpdmaclkpaadoor", sum := "e6f824f319f8ba5d53093e0da370de0e08797c2a37444fa539ffbbbf184ddf7e", func := "aigrette/aigrettelaw10.HatSmallest", spec := "hatSmallest", unfollowed := true, recurses := true, named := ["math/bits.deBruijn32tab", "math/bits.deBruijn64tab"], apart := false, laid := [("math/bits.deBruijn32tab", laid_math_bits_deBruijn32tab), ("math/bits.deBruijn64tab", laid_math_bits_deBruijn64tab)], narrowed := true }
def HatSmallestUptoSaid : Prop := hatSmallestUptoRow.holds Tryd.pinned (OpenSpec.upto hatSmallestSpec)

/-- 'aigrettelaw10.HatNamed', WHERE WHAT IT READS IS OF BULK AT MOST 1048576: true; the input reads as it did. -/
def hatNamedUptoRow : OpenClaim := { program := "ytmkejpdmaclkpaadoor", sum := "e6f824f319f8ba5d53093e0da370de0e08797c2a37444fa539ffbbbf184ddf7e", func := "aigrette/aigrettelaw10.HatNamed", spec := "hatNamed", unfollowed := true, recurses := true, named := ["math/bits.deBruijn32tab", "math/bits.deBruijn64tab"], apart := false, laid := [("math/bits.deBruijn32tab", laid_math_bits_deBruijn32tab), ("math/bits.deBruijn64tab", laid_math_bits_deBruijn64tab)], narrowed := true }
def HatNamedUptoSaid : Prop := hatNamedUptoRow.holds Tryd.pinned (OpenSpec.upto hatNamedSpec)

end Rows
end Go.Proofs.YtmkejpdmaclkpaaDoor
