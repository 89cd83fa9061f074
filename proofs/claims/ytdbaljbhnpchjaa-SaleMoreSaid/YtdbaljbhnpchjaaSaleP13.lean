/- SaleMore: the plain law. -/
import Derived.Test.YtdbaljbhnpchjaaSaleB13
namespace Go.Gh.Sale
set_option linter.unusedVariables false
set_option linter.unusedSimpArgs false

theorem f58m_eq {F : Nat} {l : List Int} (h : l.length ≤ 100) : f58m F l = some l := by
  have e : ∀ l : List Int, l.length ≤ 100 → f58 F (some l) = some l := fun l h => by
    unfold f58
    rw [if_neg (by simp), Option.getD_some, req_pos (by simp; omega), List.nil_append]
  unfold f58m
  cases l with
  | nil =>
    have h0 : f58 F none = some [] := by unfold f58; rw [if_pos (by decide)]
    unfold nilm
    exact (if_pos (h0.trans (e [] (by simp)).symm)).trans h0
  | cons x xs => exact e (x :: xs) h
theorem f58_1m_is {F : Nat} : f58_1m F = f58m F := rfl
theorem f58_2m_is {F : Nat} : f58_2m F = f58m F := rfl

theorem f13_p1_eq {F m : Nat} {s : List (List Int)} {r w : List Int} (hr : r.length = m) (hm : m ≤ 4) (hw : w.length = 4) (hv : ∀ x : Int, x ∈ w → 0 ≤ x ∧ x ≤ 255) : ∀ (k i : Nat) (acc : List Int), i ≤ m → m < k + i → acc.length = i → (∀ x ∈ acc, 0 ≤ x ∧ x ≤ 99) → ∃ l, f13_p1 F s r w k i acc = some l ∧ l.length = m ∧ ∀ x ∈ l, 0 ≤ x ∧ x ≤ 99 := by
  intro k
  induction k with
  | zero => intro i acc _ h; omega
  | succ k ih =>
    intro i acc h1 h2 h3 h4
    unfold f13_p1
    by_cases hi : i < m
    · have hx := hv _ (List.getElem_mem (l := w) (n := i) (by omega))
      obtain ⟨t1, t2, t3⟩ := tmod_bd (n := 10) hx (by omega)
      rw [if_pos (by simp; omega), req_pos (by omega), Int.toNat_natCast, Nat.zero_add, Nat.mul_one, List.getElem?_eq_getElem (by omega), Option.bind_some, req_pos (by simp; omega), w64_succ (by omega)]
      refine ih (i + 1) _ (by omega) (by omega) (by simp; omega) (fun x hx => ?_)
      rcases List.mem_append.1 hx with hx | hx
      · exact h4 x hx
      · simp at hx
        rw [hx, t1]
        exact ⟨t2, by have : Int.tmod w[i] ((10 : Nat) : Int) < ((10 : Nat) : Int) := t3; have e : ((10 : Nat) : Int) = 10 := rfl; rw [e] at this; omega⟩
    · rw [if_neg (by simp; omega)]
      exact ⟨acc, rfl, by omega, h4⟩

theorem f13_p6_eq {F m : Nat} {s : List (List Int)} {r p q : List Int} (hr : r.length = m) (hm : m ≤ 5) (hp : p.length = m) (hq : q.length = m) (h : ∀ l : Nat, l < m → pr p l ≤ pr q l) : ∀ (k i : Nat), i ≤ m → m < k + i → f13_p6 F s p q r k i = some .c1 := by
  intro k
  induction k with
  | zero => intro i _ h; omega
  | succ k ih =>
    intro i h1 h2
    unfold f13_p6
    by_cases hi : i < m
    · have := h i hi
      rw [pr_nat (by omega), pr_nat (by omega)] at this
      rw [if_pos (by simp; omega), at_get (by omega), Option.bind_some, at_get (by omega), Option.bind_some, if_neg (by simpa using this), w64_succ (by omega)]
      exact ih (i + 1) (by omega) (by omega)
    · rw [if_neg (by simp; omega)]

theorem f13_p11_eq {F m : Nat} {s : List (List Int)} {p : List Int} (hv : Vs m s) : ∀ (k i : Nat), i ≤ s.length → s.length < k + i → f13_p11 F s p k i ((s.take i).map (· ++ [0])) = some (wide s) := by
  have hn := hv.n
  have hm := hv.m5
  intro k
  induction k with
  | zero => intro i _ h; omega
  | succ k ih =>
    intro i h1 h2
    unfold f13_p11
    by_cases hi : i < s.length
    · have hlen := (hv.ok _ (List.getElem_mem hi)).1
      rw [if_pos (by simp; omega), at_get hi, Option.bind_some, f58m_eq (by omega), Option.bind_some, req_pos (by simp; omega), req_pos (by simp; omega), w64_succ (by omega)]
      have e : (s.take i).map (· ++ [(0 : Int)]) ++ [s[i] ++ [0]] = (s.take (i + 1)).map (· ++ [0]) := by rw [List.take_add_one, List.getElem?_eq_getElem hi, List.map_append]; rfl
      rw [e]
      exact ih (i + 1) (by omega) (by omega)
    · rw [if_neg (by simp; omega)]
      obtain rfl : i = s.length := by omega
      rw [List.take_length]
      rfl

end Go.Gh.Sale
