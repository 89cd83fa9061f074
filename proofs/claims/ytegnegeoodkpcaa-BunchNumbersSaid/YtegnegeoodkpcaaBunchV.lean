/- Bunch: lists of different numbers; what is tried is counted. -/
import Derived.Test.YtegnegeoodkpcaaBunchU
namespace Go.Gh.Bunch
set_option linter.unusedVariables false
set_option linter.unusedSimpArgs false

/-- What holds of any two neighbours. -/
def adj (p : Int → Int → Bool) : List Int → Bool
  | a :: b :: r => p a b && adj p (b :: r)
  | _ => true

theorem adj_drop {p : Int → Int → Bool} {l : List Int} {i : Nat} (h0 : 0 < i) (h : i < l.length) : adj p (l.drop (i - 1)) = (p l[i - 1] l[i] && adj p (l.drop i)) := by
  rw [drop_cons (i := i - 1) (by omega)]
  simp only [Nat.sub_add_cancel h0]
  rw [drop_cons (i := i) h]
  rfl
theorem adj_end {p : Int → Int → Bool} {l : List Int} {i : Nat} (h : l.length ≤ i) : adj p (l.drop (i - 1)) = true := by
  by_cases h1 : l.length ≤ i - 1
  · rw [List.drop_eq_nil_of_le h1]; rfl
  · rw [drop_cons (by omega), List.drop_eq_nil_of_le (by omega)]; rfl

def uneq (a b : Int) : Bool := b != a
def down (a b : Int) : Bool := !decide (b ≥ a)

def cnt (L : List (List Int)) : Int := L.foldr (fun l s => (if adj uneq l = true then 1 else 0) + s) 0
def sgn (L : List (List Int)) : Int := L.foldr (fun l s => (if adj uneq l = true then 1 - 2 * ((l.length % 2 : Nat) : Int) else 0) + s) 0

end Go.Gh.Bunch
