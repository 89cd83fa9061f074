/- Shorter names. -/
import Derived.Test.YtcaphjiiaclndaaGreatDoorGiBb
namespace Go.Gh
set_option linter.unusedVariables false
set_option linter.unusedSimpArgs false

def rep (n : Nat) (e : En) (l : List En) : List En := match n with
 | 0 => l
 | n + 1 => e :: rep n e l

def rgn (id : Nat) : Code → Code
 | .region j ops d => match Nat.beq j id with | true => .region j ops d | false => .skip
 | .seq x y | .cond _ x y | .rangeFunc _ _ x y => match rgn id x with | .skip => rgn id y | c => c
 | .block _ b | .loop b | .scope b => rgn id b
 | _ => .skip
def rgnF (id : Nat) (f : Func) : Code := match f.body with | some c => rgn id c | none => .skip

abbrev GI (n : Int) : G := .r (.at (.int .i64 n))
abbrev GB (b : Bool) : G := .r (.at (.bool b))
abbrev GL (xs : List Int) : G := .r (.at (.lst (.int .i64) xs false))

end Go.Gh
