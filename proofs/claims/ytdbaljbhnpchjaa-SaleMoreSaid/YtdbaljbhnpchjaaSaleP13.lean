/- SaleMore: the plain law. -/
import Derived.Test.YtdbaljbhnpchjaaSaleB13
namespace Go.Gh.Sale
set_option linter.unusedVariables false
set_option linter.unusedSimpArgs false

theorem f58m_eq {F : Nat} {l : List Int} (h : l.length ≤ 100) : f58m F l = some l := by
  have e : ∀ l : List Int, l.length ≤ 100 → f58 F (some l) = some l := fun l h => by
    unfold f58
    rw [if_neg (by simp), Option.getD_some, req_pos (by simp; omega), List.nil_append]
  unfold f58m
  cases l with
  | nil =>
    have h0 : f58 F none = some [] := by unfold f58; rw [if_pos (by decide)]
    unfold nilm
    exact (if_pos (h0.trans (e [] (by simp)).symm)).trans h0
  | cons x xs => exact e (x :: xs) h
theorem f58_1m_is {F : Nat} : f58_1m F = f58m F := rfl
theorem f58_2m_is {F : Nat} : f58_2m F = f58m F := rfl

theorem f13_p1_eq {F m : Nat} {s : List (List Int)} {r w : List Int} (hr : r.length = m) (hm : m ≤ 4) (hw : w.length = 4) (hv : ∀ x : Int, x ∈ w → 0 ≤ x ∧ x ≤ 255) : ∀ (k i : Nat) (acc : List Int), i ≤ m → m < k + i → acc.length = i → (∀ x ∈ acc, 0 ≤ x ∧ x ≤ 99) → ∃ l, f13_p1 F s r w k i acc = some l ∧ l.length = m ∧ ∀ x ∈ l, 0 ≤ x ∧ x ≤ 99 := by
  intro k
  induction k with
  | zero => intro i acc _ h; omega
  | succ k ih =>
    intro i acc h1 h2 h3 h4
    unfold f13_p1
    by_cases hi : i < m
    · have hx := hv _ (List.getElem_mem (l := w) (n := i) (by omega))
      obtain ⟨t1, t2, t3⟩ := tmod_bd (n := 10) hx (by omega)
      rw [if_pos (by simp; omega), req_pos (by omega), Int.toNat_natCast, Nat.zero_add, Nat.mul_one, List.getElem?_eq_getElem (by omega), Option.bind_some, req_pos (by simp; omega), w64_succ (by omega)]
      refine ih (i + 1) _ (by omega) (by omega) (by simp; omega) (fun x hx => ?_)
      rcases List.mem_append.1 hx with hx | hx
      · exact h4 x hx
      · simp at hx
        rw [hx, t1]
        exact ⟨t2, by have : Int.tmod w[i] ((10 : Nat) : Int) < ((10 : Nat) : Int) := t3; have e : ((10 : Nat) : Int) = 10 := rfl; rw [e] at this; omega⟩
    · rw [if_neg (by simp; omega)]
      exact ⟨acc, rfl, by omega, h4⟩

theorem f13_p6_eq {F m : Nat} {s : List (List Int)} {r p q : List Int} (hr : r.length = m) (hm : m ≤ 5) (hp : p.length = m) (hq : q.length = m) (h : ∀ l : Nat, l < m → pr p l ≤ pr q l) : ∀ (k i : Nat), i ≤ m → m < k + i → f13_p6 F s p q r k i = some .c1 := by
  intro k
  induction k with
  | zero => intro i _ h; omega
  | succ k ih =>
    intro i h1 h2
    unfold f13_p6
    by_cases hi : i < m
    · have := h i hi
      rw [pr_nat (by omega), pr_nat (by omega)] at this
      rw [if_pos (by simp; omega), at_get (by omega), Option.bind_some, at_get (by omega), Option.bind_some, if_neg (by simpa using this), w64_succ (by omega)]
      exact ih (i + 1) (by omega) (by omega)
    · rw [if_neg (by simp; omega)]

theorem f13_p11_eq {F m : Nat} {s : List (List Int)} {p : List Int} (hv : Vs m s) : ∀ (k i : Nat), i ≤ s.length → s.length < k + i → f13_p11 F s p k i ((s.take i).map (· ++ [0])) = some (wide s) := by
  have hn := hv.n
  have hm := hv.m5
  intro k
  induction k with
  | zero => intro i _ h; omega
  | succ k ih =>
    intro i h1 h2
    unfold f13_p11
    by_cases hi : i < s.length
    · have hlen := (hv.ok _ (List.getElem_mem hi)).1
      rw [if_pos (by simp; omega), at_get hi, Option.bind_some, f58m_eq (by omega), Option.bind_some, req_pos (by simp; omega), req_pos (by simp; omega), w64_succ (by omega)]
      have e : (s.take i).map (· ++ [(0 : Int)]) ++ [s[i] ++ [0]] = (s.take (i + 1)).map (· ++ [0]) := by rw [List.take_add_one, List.getElem?_eq_getElem hi, List.map_append]; rfl
      rw [e]
      exact ih (i + 1) (by omega) (by omega)
    · rw [if_neg (by simp; omega)]
      obtain rfl : i = s.length := by omega
      rw [List.take_length]
      rfl

theorem f13_plain (b l : Int) (w by_ : List Int) (hb : 0 ≤ b ∧ b ≤ 255) (hl : 0 ≤ l ∧ l ≤ 255) (hw : w.length = 16) (hx : ∀ x : Int, x ∈ w → 0 ≤ x ∧ x ≤ 255) (hw2 : by_.length = 4) (hv2 : ∀ x : Int, x ∈ by_ → 0 ≤ x ∧ x ≤ 255) : f13 10000 b l w by_ = some true := by
  obtain ⟨s, m, e43, hv, hs, hm, _⟩ := made_eq (F := 10000) (most := 9) (nb := 4) (nl := 4) (by omega) (by omega) ⟨by omega, by omega⟩ (by omega) hb hl hw hx
  have hn := hv.n
  obtain ⟨r, q1, q2⟩ := hv.at0
  obtain ⟨x, x1, x2, x3⟩ := f13_p1_eq (F := 10000) (s := s) q2 hm hw2 hv2 10000 0 [] (by omega) (by omega) rfl (by simp)
  have hv' : Vs m (s ++ [x]) := ⟨fun q hq => by
    rcases List.mem_append.1 hq with hq | hq
    · exact hv.ok q hq
    · simp at hq; subst hq; exact ⟨x2, x3⟩, by simp; omega, hv.m5⟩
  have hw' := wide_vs hv hm
  have e52 : f52_2 10000 s = some s := by
    unfold f52_2
    rw [req_pos (by intro h; rw [h] at hn; exact absurd hn.1 (by decide)), req_pos (by simp; omega), List.nil_append]
  have e39 : ∀ (m : Nat) (s : List (List Int)), Vs m s → f39 10000 s = some (lowP m s, 0) := fun m s hv => by rw [f39_eq (by omega), if_neg (by simp [hv.ck]), hv.head]
  have e41 : ∀ (m : Nat) (s : List (List Int)), Vs m s → f41 10000 s = some (highP m s, 0) := fun m s hv => by rw [f41_eq (by omega), if_neg (by simp [hv.ck]), hv.head]
  have e17 : ∀ (m : Nat) (s : List (List Int)), Vs m s → f17 10000 s = some (bestD m s, 0) := fun m s hv => by rw [f17_eq (by omega), if_neg (by simp [hv.ck]), hv.head]
  have e23 : ∀ l : List Int, l.length ≤ 50 → f23 10000 l l = some true := fun l hl => by rw [f23_eq (by omega) (by omega)]; simp
  have hbl := (best_len hv).1
  have h6 := f13_p6_eq (F := 10000) (s := s) q2 hv.m5 lowP_len lowP_len (fun l hl => lowP_more hv hv' hl) 10000 0 (by omega) (by omega)
  have h11 := f13_p11_eq (F := 10000) (p := lowP m s) hv 10000 0 (by omega) (by omega)
  have hW : ¬ (decide ((mo m (-1) s 0 (all_ m)).1 > (mo m (-1) (s ++ [x]) 0 (all_ m)).1)) = true := by
    have := W_more hv hv'
    unfold W at this
    simp; omega
  unfold f13
  rw [show f43 10000 b l w 4 4 9 = some s from e43, Option.bind_some, q1, Option.bind_some, show f13_p1 10000 s r by_ 10000 0 [] = _ from x1, Option.bind_some, e52, Option.bind_some, take0, req_pos (by simp; omega), e39 m s hv, Option.bind_some]
  dsimp only
  rw [take0, e39 m _ hv', Option.bind_some]
  dsimp only
  rw [if_neg (by decide), if_neg (by decide), if_neg (by simp [lowP_len, q2]), if_neg (by simp [lowP_len, q2]), great_eq (by omega) hv, Option.bind_some, great_eq (by omega) hv', Option.bind_some, if_neg hW, show f13_p6 10000 s (lowP m s) (lowP m (s ++ [x])) r 10000 0 = _ from h6, Option.bind_some]
  dsimp only
  rw [show f13_p11 10000 s (lowP m s) 10000 0 [] = _ from h11, Option.bind_some, take0, e39 _ _ hw', Option.bind_some]
  dsimp only
  rw [e41 _ _ hw', Option.bind_some]
  dsimp only
  rw [e41 _ _ hv, Option.bind_some]
  dsimp only
  rw [e17 _ _ hv, Option.bind_some]
  dsimp only
  rw [e17 _ _ hw', Option.bind_some]
  dsimp only
  have hl1 : (lowP m s).length = m := lowP_len
  have hl2 : (highP m s).length = m := highP_len
  rw [if_pos (by decide), if_pos (by decide), if_pos (by decide), if_pos (by decide), if_pos (by decide), best_wide hv hm, e23 _ (by omega), Option.bind_some, if_pos rfl, f58_1m_is, f58m_eq (by omega), Option.bind_some, req_pos (by simp; omega), take0, lowP_wide hv hm, e23 _ (by simp; omega), Option.bind_some, if_pos rfl, f58_2m_is, f58m_eq (by omega), Option.bind_some, req_pos (by simp; omega), take0, highP_wide hv hm, e23 _ (by simp; omega), Option.bind_some, if_pos rfl, works10]
  rfl

end Go.Gh.Sale
