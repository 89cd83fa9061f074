/- Plain helpers: numbers in bounds, tables, the places of a kind. -/
import Derived.Test.YtidfbhlhogkfmaaFan7N0
namespace Go.Gh.Fan
set_option linter.unusedVariables false
set_option linter.unusedSimpArgs false

theorem w64_in {n : Int} (h : -9223372036854775808 ≤ n ∧ n < 9223372036854775808) : w64 n = n := by
  unfold w64 IntKind.wrap
  simp [IntKind.bits, IntKind.signed]
  split <;> omega

theorem w64_nat {n : Nat} (h : n < 1000000) : w64 ((n : Int) + 1) = ((n + 1 : Nat) : Int) := by
  rw [w64_in (by omega)]; omega

theorem at_mid {α : Type} (p : List α) (x : α) (s : List α) : at? (p ++ x :: s) ((p.length : Nat) : Int) = some x := by
  unfold at?; simp

theorem at_of {α : Type} {l : List α} {i : Nat} {x : α} (h : l[i]? = some x) : at? l ((i : Nat) : Int) = some x := by
  unfold at?; simp [h]

theorem req_pos {α : Type} {p : Prop} [Decidable p] {x : Option α} (h : p) : req p x = x := by unfold req; rw [if_pos h]

/-- A table of numbers. -/
def tab (n : Nat) (f : Nat → Int) : List Int := (List.range n).map f

theorem tab_len (n : Nat) (f : Nat → Int) : (tab n f).length = n := by simp [tab]
theorem tab_get {n k : Nat} {f : Nat → Int} (h : k < n) : (tab n f)[k]? = some (f k) := by simp [tab, h]
theorem tab_set {n k : Nat} {f : Nat → Int} {v : Int} : (tab n f).set k v = tab n (fun i => if i = k then v else f i) := by
  apply List.ext_getElem
  · simp [tab]
  · intro i h1 h2
    simp only [tab, List.length_map, List.length_range] at h2
    simp only [tab, List.getElem_set, List.getElem_map, List.getElem_range]
    by_cases h : k = i
    · subst h; simp
    · rw [if_neg h, if_neg (fun e => h e.symm)]
theorem tab_congr {n : Nat} {f g : Nat → Int} (h : ∀ i, i < n → f i = g i) : tab n f = tab n g := by
  apply List.map_congr_left
  intro i hi; exact h i (List.mem_range.1 hi)
theorem tab_rep (n : Nat) (v : Int) : List.replicate n v = tab n (fun _ => v) := by
  apply List.ext_getElem
  · simp [tab]
  · intro i h1 h2; simp [tab]

/-- The places of a kind, counted from a number on. -/
def posF : Int → List Int → Int → List Int
  | _, [], _ => []
  | i, x :: xs, k => if x = k then i :: posF (i + 1) xs k else posF (i + 1) xs k

theorem posF_append (k : Int) : ∀ (p s : List Int) (i : Int), posF i (p ++ s) k = posF i p k ++ posF (i + p.length) s k
  | [], s, i => by simp [posF]
  | x :: p, s, i => by
    have ih := posF_append k p s (i + 1)
    have e : i + 1 + (p.length : Int) = i + ((x :: p).length : Int) := by simp; omega
    rw [e] at ih
    simp only [List.cons_append, posF]
    split <;> simp [ih]
theorem posF_len (k : Int) : ∀ (l : List Int) (i : Int), (posF i l k).length ≤ l.length
  | [], _ => by simp [posF]
  | x :: l, i => by
    have := posF_len k l (i + 1)
    simp only [posF]; split <;> simp <;> omega
theorem posF_mem {k : Int} : ∀ {l : List Int} {i j : Int}, j ∈ posF i l k → i ≤ j ∧ j < i + l.length ∧ l[(j - i).toNat]? = some k
  | [], _, _, h => by simp [posF] at h
  | x :: l, i, j, h => by
    have hr : j ∈ posF (i + 1) l k → i ≤ j ∧ j < i + ((x :: l).length : Nat) ∧ (x :: l)[(j - i).toNat]? = some k := fun h => by
      obtain ⟨h1, h2, h3⟩ := posF_mem h
      refine ⟨by omega, by simp; omega, ?_⟩
      rw [show (j - i).toNat = (j - (i + 1)).toNat + 1 by omega]
      simpa using h3
    simp only [posF] at h
    split at h
    · rcases List.mem_cons.1 h with e | h
      · subst e; simp; omega
      · exact hr h
    · exact hr h
theorem posF_of {k : Int} : ∀ {l : List Int} {i : Int} {n : Nat}, l[n]? = some k → i + (n : Int) ∈ posF i l k
  | [], _, _, h => by simp at h
  | x :: l, i, 0, h => by simp at h; subst h; simp [posF]
  | x :: l, i, n + 1, h => by
    have := posF_of (i := i + 1) (n := n) (l := l) (k := k) (by simpa using h)
    simp only [posF]
    rw [show i + ((n + 1 : Nat) : Int) = i + 1 + (n : Int) by omega]
    split
    · exact List.mem_cons_of_mem _ this
    · exact this

theorem take0 {α : Type} (l : List α) : List.drop 0 (List.take (0 + l.length) l) = l := by simp

end Go.Gh.Fan
