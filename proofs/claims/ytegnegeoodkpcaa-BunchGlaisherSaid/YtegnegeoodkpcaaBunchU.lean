/- Bunch: all divisions in ascending order; the reference's recursion and the law's own list them. -/
import Derived.Test.YtegnegeoodkpcaaBunchS
namespace Go.Gh.Bunch
set_option linter.unusedVariables false
set_option linter.unusedSimpArgs false

theorem bcongr {α β : Type} {x : Option α} {f g : α → Option β} (h : ∀ y, f y = g y) : Option.bind x f = Option.bind x g := by rw [funext h]
theorem icongr {α : Type} {p : Prop} [Decidable p] {a b x y : α} (h : a = x) (k : b = y) : (if p then a else b) = if p then x else y := by rw [h, k]
theorem ite_bind {α β : Type} {p : Prop} [Decidable p] {a b : Option α} {g : α → Option β} : Option.bind (if p then a else b) g = if p then Option.bind a g else Option.bind b g := by split <;> rfl

def al : Nat → Nat → Nat → List (List Int)
  | 0, _, _ => []
  | k + 1, n, m => if n = 0 then [[]] else (List.range (min m n)).flatMap fun i => (al k (n - (i + 1)) (i + 1)).map (((i + 1 : Nat) : Int) :: ·)

theorem al_len : ∀ (k n m : Nat), n < k → n ≤ 30 → m ≤ 30 → (((al k n m).length : Nat) : Int) = c n m := by
  intro k
  induction k with
  | zero => intro n m h; omega
  | succ k ih =>
    intro n m hk hn hm
    unfold al
    by_cases h0 : n = 0
    · rw [if_pos h0, h0, (c_look (n := 0) (by omega) hm).2.1 rfl]; rfl
    · rw [if_neg h0]
      have key : ∀ p, p ≤ n → ((((List.range p).flatMap fun i => (al k (n - (i + 1)) (i + 1)).map (((i + 1 : Nat) : Int) :: ·)).length : Nat) : Int) = c n p := by
        intro p
        induction p with
        | zero => intro _; rw [(c_look hn (m := 0) (by omega)).2.2.1 (by omega) rfl]; rfl
        | succ p ihp =>
          intro hp
          rw [List.range_succ, List.flatMap_append, List.length_append, Int.natCast_add, ihp (by omega)]
          rw [(c_look hn (m := p + 1) (by omega)).2.2.2.2 (by omega) hp]
          simp only [List.flatMap_cons, List.flatMap_nil, List.append_nil, List.length_map]
          rw [ih (n - (p + 1)) (p + 1) (by omega) (by omega) (by omega), Nat.add_sub_cancel]
      rw [c_min hn hm, Nat.min_comm n m]
      exact key _ (Nat.min_le_right _ _)

theorem al_each : ∀ (k n m : Nat), ∀ l ∈ al k n m, l.length ≤ n := by
  intro k
  induction k with
  | zero => intro n m l h; cases h
  | succ k ih =>
    intro n m l h
    unfold al at h
    by_cases h0 : n = 0
    · rw [if_pos h0] at h
      simp at h; subst h; simp
    · rw [if_neg h0] at h
      obtain ⟨i, hi, h⟩ := List.mem_flatMap.1 h
      obtain ⟨t, ht, rfl⟩ := List.mem_map.1 h
      have := ih _ _ t ht
      have hi := List.mem_range.1 hi
      simp only [List.length_cons]
      omega

theorem c22 {n m : Nat} (hn : n ≤ 22) (hm : m ≤ 30) : c n m ≤ 1002 := by
  have h : ((List.range 23).all fun n => (List.range 31).all fun m => decide (c n m ≤ 1002)) = true := by decide +kernel
  simp only [List.all_eq_true, List.mem_range, decide_eq_true_eq] at h
  exact h n (by omega) m (by omega)

theorem al_small {k n m : Nat} (hk : n < k) (hn : n ≤ 22) (hm : m ≤ 30) : (al k n m).length ≤ 1002 := by
  have := al_len k n m hk (by omega) hm
  have := c22 hn hm
  omega

theorem drop_cons {α : Type} {l : List α} {i : Nat} (h : i < l.length) : l.drop i = l[i] :: l.drop (i + 1) := List.drop_eq_getElem_cons h
theorem range_drop {p j : Nat} (h0 : 0 < j) (h : j ≤ p) : (List.range p).drop (j - 1) = (j - 1) :: (List.range p).drop j := by
  rw [drop_cons (by simp; omega), List.getElem_range, Nat.sub_add_cancel h0]

theorem f79_eq {F : Nat} (hF : 1100 ≤ F) : ∀ (k n m : Nat) (l : List Int) (out : List (List Int)), n < k → n ≤ 22 → m ≤ 30 → l.length + n ≤ 100 → out.length + (al k n m).length ≤ 2000 →
    f79 F k l n m out = some (out ++ (al k n m).map (l ++ ·)) := by
  intro k
  induction k with
  | zero => intro n m _ _ h; omega
  | succ k ih =>
    intro n m l out hk hn hm hl hlen
    simp only [f79, f79_b, al] at hlen ⊢
    by_cases h0 : n = 0
    · rw [if_pos h0] at hlen ⊢
      rw [if_pos (by simp; omega), req_pos (by simp at hlen ⊢; omega)]; simp
    · rw [if_neg h0] at hlen ⊢
      rw [if_neg (by simp; omega)]
      have loop : ∀ (q j : Nat) (acc : List (List Int)), 0 < j → j ≤ min m n + 1 → min m n + 1 < q + j → acc.length + (((List.range (min m n)).drop (j - 1)).flatMap fun i => (al k (n - (i + 1)) (i + 1)).map (((i + 1 : Nat) : Int) :: ·)).length ≤ 2000 →
          f79_p2 F (f79 F k) l n m q j acc = some (acc ++ (((List.range (min m n)).drop (j - 1)).flatMap fun i => (al k (n - (i + 1)) (i + 1)).map (((i + 1 : Nat) : Int) :: ·)).map (l ++ ·)) := by
        intro q
        induction q with
        | zero => intro j acc _ _ h; omega
        | succ q ihq =>
          intro j acc hj0 hj1 hj2 hacc
          unfold f79_p2
          rw [min_int]
          by_cases hj : j ≤ min m n
          · rw [if_pos (by simp; omega), req_pos (by simp; omega), req_pos (by simp; omega)]
            have w1 : w64 ((n : Int) - (j : Int)) = ((n - j : Nat) : Int) := by rw [w64_in (by omega)]; omega
            have w2 : w64 ((j : Int) + 1) = ((j + 1 : Nat) : Int) := by rw [w64_in (by omega)]; omega
            rw [range_drop hj0 hj, List.flatMap_cons, List.length_append, List.length_map, Nat.sub_add_cancel hj0] at hacc
            rw [w1, w2, ih (n - j) j _ acc (by omega) (by omega) (by omega) (by simp; omega) (by omega), Option.bind_some]
            rw [ihq (j + 1) _ (by omega) (by omega) (by omega) (by rw [Nat.add_sub_cancel]; simp only [List.length_append, List.length_map] at hacc ⊢; omega)]
            rw [range_drop hj0 hj, List.flatMap_cons, Nat.sub_add_cancel hj0, Nat.add_sub_cancel]
            simp [List.map_append, List.append_assoc, List.map_map, Function.comp_def]
          · have e : (List.range (min m n)).drop (j - 1) = [] := List.drop_eq_nil_of_le (by simp; omega)
            rw [e, if_neg (by simp; omega)]; simp
      rw [show (1 : Int) = ((1 : Nat) : Int) from rfl, loop F 1 out (by omega) (by omega) (by omega) (by simpa using hlen), Option.bind_some]
      simp

theorem f48_eq {n : Nat} (hn : n ≤ 22) : f48 2000 n = some (al 2000 n n) := by
  unfold f48
  have := al_small (k := 2000) (n := n) (m := n) (by omega) hn (by omega)
  rw [f79_eq (by omega) 2000 n n [] [] (by omega) hn (by omega) (by simp; omega) (by simp; omega), Option.bind_some, take0]
  simp

end Go.Gh.Bunch
