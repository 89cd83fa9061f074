/- Bunch: lists of different numbers; what is tried is counted. -/
import Derived.Test.YtegnegeoodkpcaaBunchU
namespace Go.Gh.Bunch
set_option linter.unusedVariables false
set_option linter.unusedSimpArgs false

/-- What holds of any two neighbours. -/
def adj (p : Int → Int → Bool) : List Int → Bool
  | a :: b :: r => p a b && adj p (b :: r)
  | _ => true

theorem adj_drop {p : Int → Int → Bool} {l : List Int} {i : Nat} (h0 : 0 < i) (h : i < l.length) : adj p (l.drop (i - 1)) = (p l[i - 1] l[i] && adj p (l.drop i)) := by
  rw [drop_cons (i := i - 1) (by omega)]
  simp only [Nat.sub_add_cancel h0]
  rw [drop_cons (i := i) h]
  rfl
theorem adj_end {p : Int → Int → Bool} {l : List Int} {i : Nat} (h : l.length ≤ i) : adj p (l.drop (i - 1)) = true := by
  by_cases h1 : l.length ≤ i - 1
  · rw [List.drop_eq_nil_of_le h1]; rfl
  · rw [drop_cons (by omega), List.drop_eq_nil_of_le (by omega)]; rfl

def uneq (a b : Int) : Bool := b != a
def down (a b : Int) : Bool := !decide (b ≥ a)

theorem f60_p1_eq {F : Nat} {l : List Int} (hl : l.length ≤ 5000) : ∀ (k i : Nat), 0 < i → l.length < k + i → f60_p1 F l (k + 1) i = some (if adj uneq (l.drop (i - 1)) = true then .c1 else .c0) := by
  intro k
  induction k with
  | zero =>
    intro i h0 h
    unfold f60_p1
    rw [if_neg (by simp; omega), if_pos (adj_end (by omega))]
  | succ k ih =>
    intro i h0 h
    unfold f60_p1
    by_cases hi : i < l.length
    · rw [if_pos (by simp; omega), at_of (List.getElem?_eq_getElem hi), Option.bind_some]
      rw [show w64 ((i : Int) - 1) = ((i - 1 : Nat) : Int) by rw [w64_in (by omega)]; omega, at_of (List.getElem?_eq_getElem (by omega : i - 1 < l.length)), Option.bind_some]
      rw [show w64 ((i : Int) + 1) = ((i + 1 : Nat) : Int) by rw [w64_in (by omega)]; omega, adj_drop h0 hi]
      by_cases he : l[i] = l[i - 1]
      · rw [if_pos (by simp [he]), if_neg (by simp [uneq, he])]
      · rw [if_neg (by simp [he]), ih (i + 1) (by omega) (by omega), Nat.add_sub_cancel]
        congr 1
        have : uneq l[i - 1] l[i] = true := by simp [uneq, he]
        rw [this, Bool.true_and]
    · rw [if_neg (by simp; omega), if_pos (adj_end (by omega))]

theorem f60_eq {F : Nat} {l : List Int} (hl : l.length ≤ 100) (hF : 200 ≤ F) : f60 F l = some (adj uneq l) := by
  unfold f60
  obtain ⟨G, rfl⟩ : ∃ G, F = G + 1 := ⟨F - 1, by omega⟩
  rw [show (1 : Int) = ((1 : Nat) : Int) from rfl, f60_p1_eq (by omega) G 1 (by omega) (by omega), Option.bind_some]
  simp only [Nat.sub_self, List.drop_zero]
  cases adj uneq l <;> rfl

def cnt (L : List (List Int)) : Int := L.foldr (fun l s => (if adj uneq l = true then 1 else 0) + s) 0
def sgn (L : List (List Int)) : Int := L.foldr (fun l s => (if adj uneq l = true then 1 - 2 * ((l.length % 2 : Nat) : Int) else 0) + s) 0

theorem f21_p2_eq {F : Nat} (hF : 200 ≤ F) {L : List (List Int)} (hL : ∀ l ∈ L, l.length ≤ 100) (hl : L.length ≤ 5000) : ∀ (k i : Nat) (a : Int), i ≤ L.length → L.length < k + i → 0 ≤ a → a ≤ i →
    f21_p2 F L k a i = some (a + cnt (L.drop i)) := by
  intro k
  induction k with
  | zero => intro i a _ h; omega
  | succ k ih =>
    intro i a h1 h2 h3 h4
    unfold f21_p2
    by_cases hi : i < L.length
    · rw [if_pos (by simp; omega), at_of (List.getElem?_eq_getElem hi), Option.bind_some, f60_eq (hL _ (List.getElem_mem hi)) hF, Option.bind_some]
      rw [show w64 ((i : Int) + 1) = ((i + 1 : Nat) : Int) by rw [w64_in (by omega)]; omega, drop_cons hi]
      unfold f21_p5
      rw [w64_in (by omega)]
      by_cases hd : adj uneq L[i] = true
      · rw [if_pos hd, Option.bind_some, ih (i + 1) _ (by omega) (by omega) (by omega) (by omega)]
        simp only [cnt, List.foldr_cons, if_pos hd]
        congr 1; omega
      · rw [if_neg hd, Option.bind_some, ih (i + 1) _ (by omega) (by omega) (by omega) (by omega)]
        simp only [cnt, List.foldr_cons, if_neg hd]
        congr 1; omega
    · rw [if_neg (by simp; omega), List.drop_eq_nil_of_le (by omega)]
      simp [cnt]

theorem f23_p2_eq {F : Nat} (hF : 200 ≤ F) {L : List (List Int)} (hL : ∀ l ∈ L, l.length ≤ 100) (hl : L.length ≤ 5000) : ∀ (k i : Nat) (a : Int), i ≤ L.length → L.length < k + i → -i ≤ a → a ≤ i →
    f23_p2 F L k a i = some (a + sgn (L.drop i)) := by
  intro k
  induction k with
  | zero => intro i a _ h; omega
  | succ k ih =>
    intro i a h1 h2 h3 h4
    unfold f23_p2
    by_cases hi : i < L.length
    · rw [if_pos (by simp; omega), at_of (List.getElem?_eq_getElem hi), Option.bind_some, f60_eq (hL _ (List.getElem_mem hi)) hF, Option.bind_some]
      rw [show w64 ((i : Int) + 1) = ((i + 1 : Nat) : Int) by rw [w64_in (by omega)]; omega, drop_cons hi]
      unfold f23_p5
      by_cases hd : adj uneq L[i] = true
      · rw [if_pos hd, at_of (List.getElem?_eq_getElem hi), Option.bind_some]
        have e : Int.tmod ((List.length L[i] : Nat) : Int) 2 = ((List.length L[i] % 2 : Nat) : Int) := by
          rw [Int.tmod_eq_emod_of_nonneg (by omega)]; omega
        rw [e, w64_in (n := 2 * _) (by omega), w64_in (n := 1 - _) (by omega), w64_in (n := a + _) (by omega), Option.bind_some, ih (i + 1) _ (by omega) (by omega) (by omega) (by omega)]
        simp only [sgn, List.foldr_cons, if_pos hd]
        congr 1; omega
      · rw [if_neg hd, Option.bind_some, ih (i + 1) _ (by omega) (by omega) (by omega) (by omega)]
        simp only [sgn, List.foldr_cons, if_neg hd]
        congr 1; omega
    · rw [if_neg (by simp; omega), List.drop_eq_nil_of_le (by omega)]
      simp [sgn]

end Go.Gh.Bunch
