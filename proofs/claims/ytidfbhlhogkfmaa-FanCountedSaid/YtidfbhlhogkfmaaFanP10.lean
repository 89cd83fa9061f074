/- The plain law of FanChecks. -/
import Derived.Test.YtidfbhlhogkfmaaFanU
namespace Go.Gh.Fan
set_option linter.unusedVariables false
set_option linter.unusedSimpArgs false

theorem rev_eq (F N : Nat) (hN : N ≤ 1000) : ∀ (f : Nat) (a m b : List Int), m.length ≤ 2 * f + 1 → a.length = b.length → a.length + m.length + b.length = N →
    f76_p1 F 0 N (f + 1) a.length ((a.length : Int) + m.length - 1) (a ++ m ++ b) = some (a ++ m.reverse ++ b) := by
  intro f
  induction f with
  | zero =>
    intro a m b h1 h2 h3
    have : ¬ (a.length : Int) < (a.length : Int) + m.length - 1 := by omega
    have e : m.reverse = m := by
      match m, h1 with
      | [], _ => rfl
      | [x], _ => rfl
    simp only [f76_p1, this, decide_false, e]
    simp
  | succ f ih =>
    intro a m b h1 h2 h3
    by_cases hm : m.length ≤ 1
    · have : ¬ (a.length : Int) < (a.length : Int) + m.length - 1 := by omega
      have e : m.reverse = m := by
        match m, hm with
        | [], _ => rfl
        | [x], _ => rfl
      simp only [f76_p1, this, decide_false, e]
      simp
    · obtain ⟨x, c, y, rfl⟩ : ∃ x c y, m = x :: (c ++ [y]) := by
        match m, hm with
        | [], h => simp at h
        | [x], h => simp at h
        | x :: z :: r, _ =>
          refine ⟨x, (z :: r).dropLast, (z :: r).getLast (by simp), ?_⟩
          rw [List.dropLast_concat_getLast]
      simp only [List.length_cons, List.length_append, List.length_nil] at h1 h3 hm
      have hlt : (a.length : Int) < (a.length : Int) + ((x :: (c ++ [y])).length : Nat) - 1 := by simp; omega
      have ej : (a.length : Int) + ((x :: (c ++ [y])).length : Nat) - 1 = ((a.length + c.length + 1 : Nat) : Int) := by simp; omega
      have g1 : (a ++ (x :: (c ++ [y])) ++ b)[0 + (a.length + c.length + 1)]? = some y := by
        rw [Nat.zero_add, List.append_assoc, List.getElem?_append_right (by omega)]
        simp [show a.length + c.length + 1 - a.length = c.length + 1 by omega]
      have g2 : (a ++ (x :: (c ++ [y])) ++ b)[0 + a.length]? = some x := by
        rw [Nat.zero_add, List.append_assoc, List.getElem?_append_right (by omega)]
        simp
      have s1 : (a ++ (x :: (c ++ [y])) ++ b).set (0 + a.length) y = a ++ (y :: (c ++ [y])) ++ b := by
        rw [Nat.zero_add, List.append_assoc, List.set_append_right _ _ (by omega)]
        simp
      have s2 : (a ++ (y :: (c ++ [y])) ++ b).set (0 + (a.length + c.length + 1)) x = (a ++ [y]) ++ c ++ (x :: b) := by
        rw [Nat.zero_add, List.append_assoc, List.set_append_right _ _ (by omega)]
        simp [show a.length + c.length + 1 - a.length = c.length + 1 by omega]
      have ih := ih (a ++ [y]) c (x :: b) (by omega) (by simp; omega) (by simp; omega)
      rw [f76_p1]
      simp only [decide_eq_true hlt, if_true]
      rw [ej]
      simp only [Int.toNat_natCast, g1, g2, s1, s2, Option.bind_some]
      rw [req_pos (by omega), req_pos (by omega), req_pos (by simp), req_pos (by simp; omega), w64_in (n := (a.length : Int) + 1) (by omega), w64_in (n := ((a.length + c.length + 1 : Nat) : Int) - 1) (by omega)]
      rw [show (a.length : Int) + 1 = ((a ++ [y]).length : Nat) by simp, show ((a.length + c.length + 1 : Nat) : Int) - 1 = ((a ++ [y]).length : Nat) + (c.length : Int) - 1 by simp only [List.length_append, List.length_singleton]; omega, ih]
      simp

theorem f76_eq {F : Nat} {l : List Int} (hF : l.length < F) (hl : l.length ≤ 1000) : f76 F 0 l.length l = some l.reverse := by
  obtain ⟨G, rfl⟩ : ∃ G, F = G + 1 := ⟨F - 1, by omega⟩
  have := rev_eq (G + 1) l.length hl G [] l [] (by omega) rfl (by simp)
  simp only [List.nil_append, List.append_nil, List.length_nil] at this
  unfold f76
  rw [w64_in (n := (l.length : Int) - 1) (by omega)]
  rw [show ((0 : Nat) : Int) + (l.length : Int) - 1 = (l.length : Int) - 1 by omega] at this
  simp only [Int.natCast_zero] at this
  rw [this]; rfl

theorem row_take {l : List Int} (h : l.length ≤ 16) : List.take l.length (tab 16 (atv l)) = l := by
  apply List.ext_getElem?
  intro i
  rw [List.getElem?_take]
  split
  · rw [tab_get (by omega), atv, List.getElem?_eq_getElem (by omega)]; rfl
  · rw [List.getElem?_eq_none (by omega)]

theorem fst_none {l : List Int} {k : Nat} : fstv l k = -1 ↔ posF 0 l k = [] := by
  unfold fstv
  cases h : posF 0 l k with
  | nil => simp
  | cons y ys =>
    have := posF_mem (l := l) (i := 0) (j := y) (k := k) (by rw [h]; simp)
    simp only [List.headD_cons]
    constructor
    · intro e; omega
    · intro e; cases e

theorem mem_firsts {f : Nat → Int} {n : Nat} (hn : n ≤ 8) : (-1 : Int) ∈ List.drop 1 (List.take (1 + (n + 1 - 1)) (tab 9 f)) ↔ ∃ k, 1 ≤ k ∧ k ≤ n ∧ f k = -1 := by
  rw [List.mem_iff_getElem?]
  constructor
  · rintro ⟨i, h⟩
    rw [List.getElem?_drop, List.getElem?_take] at h
    split at h
    · rw [tab_get (by omega)] at h
      exact ⟨1 + i, by omega, by omega, by simpa using h⟩
    · cases h
  · rintro ⟨k, h1, h2, h3⟩
    refine ⟨k - 1, ?_⟩
    rw [List.getElem?_drop, List.getElem?_take, if_pos (by omega), tab_get (by omega)]
    rw [show 1 + (k - 1) = k by omega, h3]

theorem f14_true : f14 100 = some true := by decide +kernel

end Go.Gh.Fan
