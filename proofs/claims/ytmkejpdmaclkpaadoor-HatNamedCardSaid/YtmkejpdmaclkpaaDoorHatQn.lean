/- HatNamed: codes with other names and other colours, looked at by the kernel. -/
import Derived.Test.YtmkejpdmaclkpaaDoorHatS
namespace Go.Gh.Hat
set_option linter.unusedVariables false
set_option linter.unusedSimpArgs false

/-- As many are not covered, in all three codes. -/
def lookNamed (n s t : Nat) : Bool :=
  match f43 1000 (s : Int) with
  | some x7 => (match f13_p1 1000 (t : Int) (n : Int) x7 [] 1000 0 [] [] with
    | some (a, b) => (match f55 1000 0 a.length a, f55_1 1000 0 b.length b with
      | some a', some b' => (match f17 1000 (n : Int) x7, f17_2 1000 (n : Int) (List.drop 0 (List.take (0 + a.length) a')), f17_3 1000 (n : Int) (List.drop 0 (List.take (0 + b.length) b')) with
        | some (u, 0), some (0, v), some (0, w) => u.length == v.length && (u.length == w.length && (decide (a.length ≤ a'.length) && decide (b.length ≤ b'.length)))
        | _, _, _ => false)
      | _, _ => false)
    | _ => false)
  | _ => false

def rowNamed (n t : Nat) : Bool := (List.range (2 ^ 2 ^ n)).all fun s => lookNamed n s t

end Go.Gh.Hat
