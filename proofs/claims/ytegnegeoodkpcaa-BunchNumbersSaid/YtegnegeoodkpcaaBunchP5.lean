/- The plain law of BunchNumbers. -/
import Derived.Test.YtegnegeoodkpcaaBunchW
import Derived.Test.YtegnegeoodkpcaaBunchT
namespace Go.Gh.Bunch
set_option linter.unusedVariables false
set_option linter.unusedSimpArgs false

theorem f58_1_eq (F : Nat) : ∀ k, f58_1 F k = f58 F k := by
  intro k
  induction k with
  | zero => rfl
  | succ k ih =>
    show f58_1_b F (f58_1 F k) = f58_b F (f58 F k)
    rw [ih]; rfl
theorem f58_2_eq (F : Nat) : ∀ k, f58_2 F k = f58 F k := by
  intro k
  induction k with
  | zero => rfl
  | succ k ih =>
    show f58_2_b F (f58_2 F k) = f58_b F (f58 F k)
    rw [ih]; rfl

theorem f73_p2_eq {F : Nat} {a b : List Int} (hab : a.length = b.length) (ha : a.length ≤ 5000) : ∀ (k i : Nat), i ≤ a.length → a.length < k + i → f73_p2 F a b k i = some (if a.drop i = b.drop i then .c1 else .c0) := by
  intro k
  induction k with
  | zero => intro i _ h; omega
  | succ k ih =>
    intro i h1 h2
    unfold f73_p2
    by_cases hi : i < a.length
    · rw [if_pos (by simp; omega), at_of (List.getElem?_eq_getElem hi), at_of (List.getElem?_eq_getElem (by omega : i < b.length)), Option.bind_some, Option.bind_some]
      have e : (List.drop i a = List.drop i b) = (a[i] = b[i] ∧ List.drop (i + 1) a = List.drop (i + 1) b) := by rw [drop_cons hi, drop_cons (by omega : i < b.length), List.cons.injEq]
      simp only [e]
      by_cases he : a[i] = b[i]
      · rw [if_neg (by simp [he]), show w64 ((i : Int) + 1) = ((i + 1 : Nat) : Int) by rw [w64_in (by omega)]; omega, ih (i + 1) (by omega) (by omega)]
        simp only [he, true_and]
      · rw [if_pos (by simp [he]), if_neg (fun h => he h.1)]
    · rw [if_neg (by simp; omega), List.drop_eq_nil_of_le (by omega), List.drop_eq_nil_of_le (by omega)]
      rfl
theorem f73_eq {F : Nat} {a b : List Int} (ha : a.length < F) (hF : F ≤ 5000) : f73 F a b = some (decide (a = b)) := by
  unfold f73
  by_cases hab : a.length = b.length
  · have h := f73_p2_eq (F := F) hab (by omega) F 0 (by omega) (by omega)
    rw [List.drop_zero, List.drop_zero] at h
    rw [if_neg (by simp [hab]), show f73_p2 F a b F 0 = _ from h, Option.bind_some]
    by_cases he : a = b
    · rw [if_pos he, decide_eq_true he]
    · rw [if_neg he, decide_eq_false he]
  · rw [if_pos (by simp; omega), decide_eq_false (fun h => hab (by rw [h]))]
theorem f31_p2_eq {F : Nat} {a b : List Int} (hab : a.length = b.length) (ha : a.length ≤ 5000) : ∀ (k i : Nat), i ≤ a.length → a.length < k + i → f31_p2 F a b k i = some (if a.drop i = b.drop i then .c1 else .c0) := by
  intro k
  induction k with
  | zero => intro i _ h; omega
  | succ k ih =>
    intro i h1 h2
    unfold f31_p2
    by_cases hi : i < a.length
    · rw [if_pos (by simp; omega), at_of (List.getElem?_eq_getElem hi), at_of (List.getElem?_eq_getElem (by omega : i < b.length)), Option.bind_some, Option.bind_some]
      have e : (List.drop i a = List.drop i b) = (a[i] = b[i] ∧ List.drop (i + 1) a = List.drop (i + 1) b) := by rw [drop_cons hi, drop_cons (by omega : i < b.length), List.cons.injEq]
      simp only [e]
      by_cases he : a[i] = b[i]
      · rw [if_neg (by simp [he]), show w64 ((i : Int) + 1) = ((i + 1 : Nat) : Int) by rw [w64_in (by omega)]; omega, ih (i + 1) (by omega) (by omega)]
        simp only [he, true_and]
      · rw [if_pos (by simp [he]), if_neg (fun h => he h.1)]
    · rw [if_neg (by simp; omega), List.drop_eq_nil_of_le (by omega), List.drop_eq_nil_of_le (by omega)]
      rfl
theorem f31_eq {F : Nat} {a b : List Int} (ha : a.length < F) (hF : F ≤ 5000) : f31 F a b = some (decide (a = b)) := by
  unfold f31
  by_cases hab : a.length = b.length
  · have h := f31_p2_eq (F := F) hab (by omega) F 0 (by omega) (by omega)
    rw [List.drop_zero, List.drop_zero] at h
    rw [if_neg (by simp [hab]), show f31_p2 F a b F 0 = _ from h, Option.bind_some]
    by_cases he : a = b
    · rw [if_pos he, decide_eq_true he]
    · rw [if_neg he, decide_eq_false he]
  · rw [if_pos (by simp; omega), decide_eq_false (fun h => hab (by rw [h]))]

/- Number -/
theorem f36_p2_eq {F : Nat} (hF : 100 ≤ F) {l : List Int} (hl : l.length ≤ 100) : ∀ (k i m n : Nat) (a : Int) (M : List (Option Int)), i ≤ l.length → l.length < k + i → n ≤ 30 → Val m n (l.drop i) → Good M → 0 ≤ a → a ≤ 10000 * i →
    f36_p2 F l k n a i M = some (a + idx n (l.drop i)) := by
  intro k
  induction k with
  | zero => intro i m n a M _ h; omega
  | succ k ih =>
    intro i m n a M h1 h2 h3 h4 h5 h6 h7
    unfold f36_p2
    by_cases hi : i < l.length
    · rw [drop_cons hi] at h4 ⊢
      obtain ⟨g1, g2, g3, g4⟩ := h4
      generalize hx : l[i] = x at *
      obtain ⟨M', e, hM'⟩ := f58_eq F F n (x.toNat - 1) M h3 (by omega) (by omega) h5
      have L := c_look h3 (show x.toNat - 1 ≤ 30 by omega)
      rw [if_pos (by simp; omega), at_of (List.getElem?_eq_getElem hi), Option.bind_some, hx, f58_1_eq]
      rw [show w64 (x - 1) = ((x.toNat - 1 : Nat) : Int) by rw [w64_in (by omega)]; omega, e, Option.bind_some]
      dsimp only
      rw [show w64 ((n : Int) - x) = ((n - x.toNat : Nat) : Int) by rw [w64_in (by omega)]; omega, show w64 ((i : Int) + 1) = ((i + 1 : Nat) : Int) by rw [w64_in (by omega)]; omega, w64_in (by omega)]
      rw [ih (i + 1) x.toNat _ _ M' (by omega) (by omega) (by omega) g4 hM' (by omega) (by omega)]
      simp only [idx]
      congr 1; omega
    · rw [if_neg (by simp; omega), List.drop_eq_nil_of_le (by omega)]
      simp [idx]

theorem f37_p2_eq {F : Nat} (hF : 200 ≤ F) (hF2 : F ≤ 5000) {l : List Int} {L : List (List Int)} (hL : ∀ x ∈ L, x.length ≤ 100) (hLl : L.length ≤ 5000) {J : Nat} (hJ : L[J]? = some l) (hu : ∀ j : Nat, L[j]? = some l → j = J) : ∀ (k i : Nat), i ≤ J → J < k + i →
    f37_p2 F l L k i = some (J : Int) := by
  have hJl := (List.getElem?_eq_some_iff.1 hJ).1
  intro k
  induction k with
  | zero => intro i _ h; omega
  | succ k ih =>
    intro i h1 h2
    unfold f37_p2
    have hi : i < L.length := by omega
    have := hL _ (List.getElem_mem hi)
    rw [at_of (List.getElem?_eq_getElem hi), Option.bind_some, f73_eq (by omega) hF2, Option.bind_some]
    by_cases he : L[i] = l
    · have := hu i (by rw [List.getElem?_eq_getElem hi, he])
      subst this
      rw [if_pos (by simp [he])]
    · have : i ≠ J := fun h => by
        subst h
        rw [List.getElem?_eq_getElem hi] at hJ
        exact he (Option.some.inj hJ)
      rw [if_neg (by simp [he]), show w64 ((i : Int) + 1) = ((i + 1 : Nat) : Int) by rw [w64_in (by omega)]; omega]
      exact ih (i + 1) (by omega) (by omega)

theorem number_eq {l : List Int} (hl : l.length ≤ 100) (hs : chk l = 0 → sm l ≤ 22) : ∃ v, f36 2000 l = some v ∧ f37 2000 l = some v := by
  by_cases h : chk l = 0
  · have hc : chkL 30 l = 0 := by
      unfold chk at h
      split at h
      · rename_i h2; exact absurd h h2
      · rename_i h2; exact Classical.not_not.1 h2
    have hx := chkL_all _ _ hc
    have hsm := chkL_sm _ _ hc
    have hn := hs h
    have hv := chkL_val l 30 hc
    have hal := al_small (k := 2000) (n := (sm l).toNat) (m := 30) (by omega) (by omega) (by omega)
    obtain ⟨i0, i1, i2⟩ := al_at (k := 2000) (by omega) (by omega) hv
    have hJ := (List.getElem?_eq_some_iff.1 i1).1
    refine ⟨(idx (sm l).toNat l, 0), ?_, ?_⟩
    · have e := f36_p2_eq (F := 2000) (by omega) hl 2000 0 30 (sm l).toNat 0 _ (by omega) (by omega) (by omega) (by rw [List.drop_zero]; exact hv) Good.none (by omega) (by omega)
      rw [List.drop_zero, Int.zero_add, Int.toNat_of_nonneg (by omega)] at e
      unfold f36
      rw [f34_eq hl (by omega), Option.bind_some, h, if_neg (by decide), f72_eq hl (by omega) hx, Option.bind_some]
      rw [show f36_p2 2000 l 2000 (sm l) 0 0 (List.replicate 961 none) = _ from e, Option.bind_some]
    · have e := f37_p2_eq (F := 2000) (by omega) (by omega) (L := al 2000 (sm l).toNat 30) (fun x hx => Nat.le_trans (al_each _ _ _ x hx) (by omega)) (by omega) i1 i2 2000 0 (by omega) (by omega)
      have e2 := f59_eq (F := 2000) (by omega) 2000 (sm l).toNat 30 (by omega) (by omega) (by omega)
      rw [Int.toNat_of_nonneg (by omega)] at e2
      unfold f37
      rw [f35_eq hl (by omega), Option.bind_some, h, if_neg (by decide), f71_eq hl (by omega) hx, Option.bind_some]
      rw [show f59 2000 2000 (sm l) 30 = _ from e2, Option.bind_some]
      rw [show f37_p2 2000 l (al 2000 (sm l).toNat 30) 2000 0 = _ from e, Option.bind_some, Int.toNat_of_nonneg i0]
  · refine ⟨(0, chk l), ?_, ?_⟩
    · unfold f36; rw [f34_eq hl (by omega), Option.bind_some, if_pos (by simpa using h)]
    · unfold f37; rw [f35_eq hl (by omega), Option.bind_some, if_pos (by simpa using h)]

end Go.Gh.Bunch
