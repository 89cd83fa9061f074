/- Shorter names. -/
import Derived.Test.YtkjlgbnbpeijbaaGiBb
namespace Go.Gh
set_option linter.unusedVariables false
set_option linter.unusedSimpArgs false

/-- The same entry of an oracle, some times. -/
def rep (n : Nat) (e : En) (l : List En) : List En := match n with
  | 0 => l
  | n + 1 => e :: rep n e l

abbrev GI (n : Int) : G := .r (.at (.int .i64 n))
abbrev GB (b : Bool) : G := .r (.at (.bool b))
abbrev GL (xs : List Int) : G := .r (.at (.lst (.int .i64) xs false))

end Go.Gh
