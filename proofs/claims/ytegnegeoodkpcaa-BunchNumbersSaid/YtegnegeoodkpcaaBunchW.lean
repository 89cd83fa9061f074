/- Bunch: the number of a division among all, in ascending order. -/
import Derived.Test.YtegnegeoodkpcaaBunchV
namespace Go.Gh.Bunch
set_option linter.unusedVariables false
set_option linter.unusedSimpArgs false

theorem fm_get {α : Type} {G : Nat → List α} : ∀ (p j : Nat) (l : α), ((List.range p).flatMap G)[j]? = some l → ∃ i j', i < p ∧ (G i)[j']? = some l ∧ j = ((List.range i).flatMap G).length + j' := by
  intro p
  induction p with
  | zero => intro j l h; simp at h
  | succ p ih =>
    intro j l h
    rw [List.range_succ, List.flatMap_append] at h
    by_cases hj : j < ((List.range p).flatMap G).length
    · rw [List.getElem?_append_left hj] at h
      obtain ⟨i, j', h1, h2, h3⟩ := ih j l h
      exact ⟨i, j', by omega, h2, h3⟩
    · rw [List.getElem?_append_right (by omega)] at h
      simp only [List.flatMap_cons, List.flatMap_nil, List.append_nil] at h
      exact ⟨p, _, by omega, h, by omega⟩

theorem fm_get_of {α : Type} {G : Nat → List α} : ∀ (p i j' : Nat) (l : α), i < p → (G i)[j']? = some l → ((List.range p).flatMap G)[((List.range i).flatMap G).length + j']? = some l := by
  intro p
  induction p with
  | zero => intro i j' l h; omega
  | succ p ih =>
    intro i j' l hi h
    rw [List.range_succ, List.flatMap_append]
    by_cases hp : i < p
    · have h2 := ih i j' l hp h
      have hlt := (List.getElem?_eq_some_iff.1 h2).1
      rw [List.getElem?_append_left hlt]; exact h2
    · have : i = p := by omega
      subst this
      rw [List.getElem?_append_right (by omega), Nat.add_sub_cancel_left]
      simpa using h

def alG (k n : Nat) (i : Nat) : List (List Int) := (al k (n - (i + 1)) (i + 1)).map (((i + 1 : Nat) : Int) :: ·)
theorem al_succ (k n m : Nat) : al (k + 1) n m = if n = 0 then [[]] else (List.range (min m n)).flatMap (alG k n) := rfl

theorem alG_len {k n : Nat} (hk : n ≤ k) (hn : n ≤ 30) (h0 : 0 < n) : ∀ p, p ≤ n → ((((List.range p).flatMap (alG k n)).length : Nat) : Int) = c n p := by
  intro p
  induction p with
  | zero => intro _; rw [(c_look hn (m := 0) (by omega)).2.2.1 (by omega) rfl]; rfl
  | succ p ihp =>
    intro hp
    rw [List.range_succ, List.flatMap_append, List.length_append, Int.natCast_add, ihp (by omega)]
    rw [(c_look hn (m := p + 1) (by omega)).2.2.2.2 (by omega) hp]
    simp only [List.flatMap_cons, List.flatMap_nil, List.append_nil, alG, List.length_map]
    rw [al_len k (n - (p + 1)) (p + 1) (by omega) (by omega) (by omega), Nat.add_sub_cancel]

/-- A division of n without a number greater than m. -/
def Val : Nat → Nat → List Int → Prop
  | _, n, [] => n = 0
  | m, n, x :: r => 1 ≤ x ∧ x ≤ m ∧ x ≤ n ∧ Val x.toNat (n - x.toNat) r

/-- The number of a division. -/
def idx : Nat → List Int → Int
  | _, [] => 0
  | n, x :: r => c n (x.toNat - 1) + idx (n - x.toNat) r

theorem al_idx : ∀ (k n m j : Nat) (l : List Int), n < k → n ≤ 30 → (al k n m)[j]? = some l → (j : Int) = idx n l ∧ Val m n l := by
  intro k
  induction k with
  | zero => intro n m j l h; omega
  | succ k ih =>
    intro n m j l hk hn h
    rw [al_succ] at h
    by_cases h0 : n = 0
    · rw [if_pos h0] at h
      match j, h with
      | 0, h => simp at h; subst h; exact ⟨rfl, h0⟩
      | j + 1, h => simp at h
    · rw [if_neg h0] at h
      obtain ⟨i, j', hi, hg, hj⟩ := fm_get _ _ _ h
      unfold alG at hg
      rw [List.getElem?_map] at hg
      obtain ⟨t, ht, hl⟩ := Option.map_eq_some_iff.1 hg
      subst hl
      obtain ⟨e1, e2⟩ := ih (n - (i + 1)) (i + 1) j' t (by omega) (by omega) ht
      have e3 := alG_len (k := k) (n := n) (by omega) hn (by omega) i (by omega)
      refine ⟨?_, by omega, by omega, by omega, ?_⟩
      · simp only [idx, Int.toNat_natCast, Nat.add_sub_cancel]
        rw [hj, Int.natCast_add, e3, e1]
      · simpa using e2

theorem al_has : ∀ (k n m : Nat) (l : List Int), n < k → Val m n l → ∃ j : Nat, (al k n m)[j]? = some l := by
  intro k
  induction k with
  | zero => intro n m l h; omega
  | succ k ih =>
    intro n m l hk hv
    rw [al_succ]
    cases l with
    | nil =>
      have h0 : n = 0 := hv
      rw [if_pos h0]; exact ⟨0, rfl⟩
    | cons x r =>
      obtain ⟨h1, h2, h3, h4⟩ := hv
      rw [if_neg (by omega)]
      obtain ⟨j, hj⟩ := ih (n - x.toNat) x.toNat r (by omega) h4
      refine ⟨_, fm_get_of (min m n) (x.toNat - 1) j _ (by omega) ?_⟩
      unfold alG
      rw [List.getElem?_map, Nat.sub_add_cancel (by omega), hj]
      simp only [Option.map_some]
      rw [Int.toNat_of_nonneg (by omega)]

theorem al_at {k n m : Nat} {l : List Int} (hk : n < k) (hn : n ≤ 30) (hv : Val m n l) : 0 ≤ idx n l ∧ (al k n m)[(idx n l).toNat]? = some l ∧ ∀ j : Nat, (al k n m)[j]? = some l → j = (idx n l).toNat := by
  obtain ⟨j, hj⟩ := al_has k n m l hk hv
  have e := (al_idx k n m j l hk hn hj).1
  refine ⟨by omega, ?_, fun j' hj' => ?_⟩
  · rw [← e]; exact hj
  · have := (al_idx k n m j' l hk hn hj').1
    omega

theorem f55_eqV {F : Nat} {x a b : Int} : f55 F x a b = some (decide (a ≤ x ∧ x ≤ b)) := by
  unfold f55
  by_cases h : a ≤ x <;> simp [h]

/- The codes of Check. -/
def chkL : Int → List Int → Int
  | _, [] => 0
  | p, x :: r => if 1 ≤ x ∧ x ≤ 30 then (if x > p then 7 else chkL x r) else 1
def sm (l : List Int) : Int := l.foldr (· + ·) 0
def chk (l : List Int) : Int := if chkL 30 l ≠ 0 then chkL 30 l else if sm l > 30 then 3 else 0

theorem sm_cons (x : Int) (r : List Int) : sm (x :: r) = x + sm r := rfl

theorem chkL_sm : ∀ (l : List Int) (p : Int), chkL p l = 0 → l.length ≤ sm l ∧ sm l ≤ 30 * l.length := by
  intro l
  induction l with
  | nil => intro _ _; exact ⟨by decide, by decide⟩
  | cons x r ih =>
    intro p h
    simp only [chkL] at h
    split at h
    · split at h
      · cases h
      · have := ih _ h
        rw [sm_cons]; simp only [List.length_cons]; omega
    · cases h

theorem chkL_val : ∀ (l : List Int) (m : Nat), chkL m l = 0 → Val m (sm l).toNat l := by
  intro l
  induction l with
  | nil => intro _ _; rfl
  | cons x r ih =>
    intro m h
    have hs := chkL_sm _ _ h
    simp only [chkL] at h
    split at h
    · rename_i hx
      split at h
      · cases h
      · have hr := chkL_sm _ _ h
        have h' : chkL (x.toNat : Int) r = 0 := by rw [Int.toNat_of_nonneg (by omega)]; exact h
        have := ih x.toNat h'
        rw [sm_cons] at hs ⊢
        refine ⟨by omega, by omega, by omega, ?_⟩
        rw [show (x + sm r).toNat - x.toNat = (sm r).toNat by omega]
        exact this
    · cases h

theorem f34_p1_eq {F : Nat} {l : List Int} (hl : l.length ≤ 100) : ∀ (k i : Nat) (p s : Int), i ≤ l.length → l.length < k + i → 0 ≤ s → s ≤ 31 →
    ∃ z, f34_p1 F l k p s i = some z ∧ (chkL p (l.drop i) ≠ 0 → z = .c0 (chkL p (l.drop i))) ∧ (chkL p (l.drop i) = 0 → z = .c1 (if 31 < s + sm (l.drop i) then 31 else s + sm (l.drop i))) := by
  intro k
  induction k with
  | zero => intro i p s _ h; omega
  | succ k ih =>
    intro i p s h1 h2 h3 h4
    unfold f34_p1
    by_cases hi : i < l.length
    · rw [if_pos (by simp; omega), at_of (List.getElem?_eq_getElem hi), drop_cons hi]
      simp only [Option.bind_some, f57_eq, decide_eq_true_eq, chkL]
      by_cases hx : 1 ≤ l[i] ∧ l[i] ≤ 30
      · rw [if_pos hx, if_pos hx]
        by_cases hp : l[i] > p
        · rw [if_pos hp, if_pos hp]
          exact ⟨_, rfl, fun _ => rfl, fun h => by cases h⟩
        · rw [if_neg hp, if_neg hp, show w64 ((i : Int) + 1) = ((i + 1 : Nat) : Int) by rw [w64_in (by omega)]; omega, w64_in (n := s + l[i]) (by omega)]
          obtain ⟨z, e1, e2, e3⟩ := ih (i + 1) l[i] (if 31 < s + l[i] then 31 else s + l[i]) (by omega) (by omega) (by split <;> omega) (by split <;> omega)
          refine ⟨z, e1, e2, fun h => ?_⟩
          rw [e3 h, sm_cons]
          have := chkL_sm _ _ h
          congr 1
          split <;> split <;> split <;> omega
      · rw [if_neg hx, if_neg hx]
        exact ⟨_, rfl, fun _ => rfl, fun h => by cases h⟩
    · rw [if_neg (by simp; omega), List.drop_eq_nil_of_le (by omega)]
      refine ⟨_, rfl, fun h => absurd rfl h, fun _ => ?_⟩
      simp only [sm, List.foldr_nil, Int.add_zero]
      rw [if_neg (by omega)]

theorem f34_eq {F : Nat} {l : List Int} (hl : l.length ≤ 100) (hF : 200 ≤ F) : f34 F l = some (chk l) := by
  obtain ⟨z, e1, e2, e3⟩ := f34_p1_eq (F := F) hl F 0 30 0 (by omega) (by omega) (by omega) (by omega)
  unfold f34 chk
  rw [show (0 : Int) = ((0 : Nat) : Int) from rfl] at e1 ⊢
  rw [show (((0 : Nat) : Int)) = 0 from rfl] at e1 ⊢
  rw [show f34_p1 F l F 30 0 0 = some z from e1, Option.bind_some]
  rw [List.drop_zero] at e2 e3
  by_cases h : chkL 30 l = 0
  · rw [e3 h, if_neg (c := chkL 30 l ≠ 0) (fun hh => hh h)]
    simp only [decide_eq_true_eq]
    have := chkL_sm _ _ h
    rw [Int.zero_add]
    by_cases hs : sm l > 30
    · rw [if_pos hs, if_pos (by split <;> omega)]
    · rw [if_neg hs, if_neg (by split <;> omega)]
  · rw [e2 h, if_pos h]

theorem f35_p1_eq {F : Nat} {l : List Int} (hl : l.length ≤ 100) : ∀ (k i : Nat) (p : Int), i ≤ l.length → l.length < k + i → (i = 0 → p = 30) → (∀ h : 0 < i, ∀ h2 : i - 1 < l.length, p = l[i - 1]) →
    ∃ z, f35_p1 F l k i = some z ∧ (chkL p (l.drop i) ≠ 0 → z = .c0 (chkL p (l.drop i))) ∧ (chkL p (l.drop i) = 0 → z = .c1) := by
  intro k
  induction k with
  | zero => intro i p _ h; omega
  | succ k ih =>
    intro i p h1 h2 h3 h4
    unfold f35_p1
    by_cases hi : i < l.length
    · have w1 : w64 ((i : Int) + 1) = ((i + 1 : Nat) : Int) := by rw [w64_in (by omega)]; omega
      have ih' := ih (i + 1) l[i] (by omega) (by omega) (by omega) (fun _ _ => by simp only [Nat.add_sub_cancel])
      rw [if_pos (by simp; omega), at_of (List.getElem?_eq_getElem hi), drop_cons hi]
      simp only [Option.bind_some, f55_eqV, decide_eq_true_eq, chkL]
      by_cases hx : 1 ≤ l[i] ∧ l[i] ≤ 30
      · rw [if_pos hx, if_pos hx]
        by_cases h0 : i = 0
        · have hp := h3 h0
          rw [if_neg (by omega), if_neg (by omega), w1]
          exact ih'
        · have hp := h4 (by omega) (by omega)
          rw [if_pos (by omega), show w64 ((i : Int) - 1) = ((i - 1 : Nat) : Int) by rw [w64_in (by omega)]; omega, at_of (List.getElem?_eq_getElem (by omega : i - 1 < l.length)), Option.bind_some, ← hp]
          by_cases hq : l[i] > p
          · rw [if_pos hq, if_pos hq]
            exact ⟨_, rfl, fun _ => rfl, fun h => by cases h⟩
          · rw [if_neg hq, if_neg hq, w1]
            exact ih'
      · rw [if_neg hx, if_neg hx]
        exact ⟨_, rfl, fun _ => rfl, fun h => by cases h⟩
    · rw [if_neg (by simp; omega), List.drop_eq_nil_of_le (by omega)]
      exact ⟨_, rfl, fun h => absurd rfl h, fun _ => rfl⟩

theorem f71_p1_eq {F : Nat} {l : List Int} (hl : l.length ≤ 100) (hx : ∀ x ∈ l, 1 ≤ x ∧ x ≤ 30) : ∀ (k i : Nat) (s : Int), i ≤ l.length → l.length < k + i → 0 ≤ s → s ≤ 100 * i → f71_p1 F l k s i = some (s + sm (l.drop i)) := by
  intro k
  induction k with
  | zero => intro i s _ h; omega
  | succ k ih =>
    intro i s h1 h2 h3 h4
    unfold f71_p1
    by_cases hi : i < l.length
    · have := hx _ (List.getElem_mem hi)
      rw [if_pos (by simp; omega), at_of (List.getElem?_eq_getElem hi), Option.bind_some, drop_cons hi, sm_cons]
      rw [show w64 ((i : Int) + 1) = ((i + 1 : Nat) : Int) by rw [w64_in (by omega)]; omega, w64_in (by omega), ih (i + 1) _ (by omega) (by omega) (by omega) (by omega)]
      congr 1; omega
    · rw [if_neg (by simp; omega), List.drop_eq_nil_of_le (by omega)]
      simp [sm]
theorem f72_p1_eq {F : Nat} {l : List Int} (hl : l.length ≤ 100) (hx : ∀ x ∈ l, 1 ≤ x ∧ x ≤ 30) : ∀ (k i : Nat) (s : Int), i ≤ l.length → l.length < k + i → 0 ≤ s → s ≤ 100 * i → f72_p1 F l k s i = some (s + sm (l.drop i)) := by
  intro k
  induction k with
  | zero => intro i s _ h; omega
  | succ k ih =>
    intro i s h1 h2 h3 h4
    unfold f72_p1
    by_cases hi : i < l.length
    · have := hx _ (List.getElem_mem hi)
      rw [if_pos (by simp; omega), at_of (List.getElem?_eq_getElem hi), Option.bind_some, drop_cons hi, sm_cons]
      rw [show w64 ((i : Int) + 1) = ((i + 1 : Nat) : Int) by rw [w64_in (by omega)]; omega, w64_in (by omega), ih (i + 1) _ (by omega) (by omega) (by omega) (by omega)]
      congr 1; omega
    · rw [if_neg (by simp; omega), List.drop_eq_nil_of_le (by omega)]
      simp [sm]

theorem chkL_all : ∀ (l : List Int) (p : Int), chkL p l = 0 → ∀ x ∈ l, 1 ≤ x ∧ x ≤ 30 := by
  intro l
  induction l with
  | nil => intro _ _ x hx; cases hx
  | cons y r ih =>
    intro p h x hx
    simp only [chkL] at h
    split at h
    · split at h
      · cases h
      · rcases List.mem_cons.1 hx with rfl | hx
        · assumption
        · exact ih _ h x hx
    · cases h

theorem f71_eq {F : Nat} {l : List Int} (hl : l.length ≤ 100) (hF : 200 ≤ F) (hx : ∀ x ∈ l, 1 ≤ x ∧ x ≤ 30) : f71 F l = some (sm l) := by
  have h := f71_p1_eq (F := F) hl hx F 0 0 (by omega) (by omega) (by omega) (by omega)
  rw [Int.zero_add, List.drop_zero] at h
  unfold f71
  rw [show f71_p1 F l F 0 0 = some (sm l) from h, Option.bind_some]
theorem f72_eq {F : Nat} {l : List Int} (hl : l.length ≤ 100) (hF : 200 ≤ F) (hx : ∀ x ∈ l, 1 ≤ x ∧ x ≤ 30) : f72 F l = some (sm l) := by
  have h := f72_p1_eq (F := F) hl hx F 0 0 (by omega) (by omega) (by omega) (by omega)
  rw [Int.zero_add, List.drop_zero] at h
  unfold f72
  rw [show f72_p1 F l F 0 0 = some (sm l) from h, Option.bind_some]

theorem f35_eq {F : Nat} {l : List Int} (hl : l.length ≤ 100) (hF : 200 ≤ F) : f35 F l = some (chk l) := by
  obtain ⟨z, e1, e2, e3⟩ := f35_p1_eq (F := F) hl F 0 30 (by omega) (by omega) (fun _ => rfl) (fun h => by omega)
  rw [List.drop_zero] at e2 e3
  unfold f35 chk
  rw [show f35_p1 F l F 0 = some z from e1, Option.bind_some]
  by_cases hc : chkL 30 l = 0
  · rw [e3 hc, if_neg (c := chkL 30 l ≠ 0) (fun hh => hh hc)]
    have := chkL_sm _ _ hc
    simp only [f71_eq hl hF (chkL_all _ _ hc), Option.bind_some, decide_eq_true_eq]
    split <;> split <;> first | rfl | omega
  · rw [e2 hc, if_pos hc]

end Go.Gh.Bunch
