/- The plain law of BunchNumbers: the division with a number; the law. -/
import Derived.Test.YtegnegeoodkpcaaBunchP5
namespace Go.Gh.Bunch
set_option linter.unusedVariables false
set_option linter.unusedSimpArgs false

theorem c_mono {n : Nat} (hn : n ≤ 30) : ∀ (d a : Nat), a + d ≤ n → c n a ≤ c n (a + d) := by
  intro d
  induction d with
  | zero => intro a _; exact Int.le_refl _
  | succ d ih =>
    intro a h
    have h1 := ih a (by omega)
    have h2 := (c_look hn (m := a + (d + 1)) (by omega)).2.2.2.2 (by omega) h
    have h3 := (c_look (n := n - (a + (d + 1))) (m := a + (d + 1)) (by omega) (by omega)).1
    rw [show a + (d + 1) - 1 = a + d by omega] at h2
    omega

theorem f38_in {F : Nat} (hF : 100 ≤ F) {n x : Nat} {j a : Int} {o : List Int} (hn : n ≤ 30) (hx0 : 0 < x) (hx : x ≤ n) (h1 : c n (x - 1) ≤ j) (h2 : j < c n x) : ∀ (k f : Nat) (M : List (Option Int)), 0 < f → f ≤ x → x < k + f → Good M →
    ∃ M', f38_p8_2 F n j o k f M = some ((x : Int), M') ∧ Good M' := by
  intro k
  induction k with
  | zero => intro f M _ _ h; omega
  | succ k ih =>
    intro f M h3 h4 h5 h6
    unfold f38_p8_2
    obtain ⟨M1, e, hM⟩ := f58_eq F F n f M hn (by omega) (by omega) h6
    rw [f58_2_eq, e, Option.bind_some]
    dsimp only
    by_cases hf : f = x
    · subst hf
      rw [if_neg (by simp; omega)]
      exact ⟨M1, rfl, hM⟩
    · have := c_mono hn (x - 1 - f) f (by omega)
      rw [show f + (x - 1 - f) = x - 1 by omega] at this
      rw [if_pos (by simp; omega), show w64 ((f : Int) + 1) = ((f + 1 : Nat) : Int) by rw [w64_in (by omega)]; omega]
      exact ih (f + 1) M1 (by omega) (by omega) (by omega) hM

theorem f38_p4_eq {F : Nat} (hF : 100 ≤ F) : ∀ (q K n m j : Nat) (l : List Int) (M : List (Option Int)) (acc : List Int), n < q → n < K → n ≤ 30 → (al K n m)[j]? = some l → Good M → acc.length + n ≤ 100 →
    f38_p4 F q n j M acc = some (acc ++ l) := by
  intro q
  induction q with
  | zero => intro K n m j l M acc h; omega
  | succ q ih =>
    intro K n m j l M acc h1 h2 h3 h4 h5 h6
    obtain ⟨K, rfl⟩ : ∃ K', K = K' + 1 := ⟨K - 1, by omega⟩
    unfold f38_p4
    rw [al_succ] at h4
    by_cases h0 : n = 0
    · rw [if_pos h0] at h4
      match j, h4 with
      | 0, h => simp at h; subst h; rw [if_neg (by simp; omega), List.append_nil]
      | j + 1, h => simp at h
    · rw [if_neg h0] at h4
      obtain ⟨i, j', hi, hg, hj⟩ := fm_get _ _ _ h4
      unfold alG at hg
      rw [List.getElem?_map] at hg
      obtain ⟨t, ht, hl⟩ := Option.map_eq_some_iff.1 hg
      subst hl
      have e3 := alG_len (k := K) (n := n) (by omega) h3 (by omega) i (by omega)
      have hjl := (List.getElem?_eq_some_iff.1 ht).1
      have hlen := al_len K (n - (i + 1)) (i + 1) (by omega) (by omega) (by omega)
      have hc := (c_look h3 (m := i + 1) (by omega)).2.2.2.2 (by omega) (by omega)
      rw [Nat.add_sub_cancel] at hc
      have hb := (c_look h3 (m := i) (by omega)).1
      have hb2 := (c_look (n := n - (i + 1)) (m := i + 1) (by omega) (by omega)).1
      obtain ⟨M1, e1, g1⟩ := f38_in (F := F) (j := (j : Int)) (a := 0) (o := acc) hF h3 (x := i + 1) (by omega) (by omega) (by rw [Nat.add_sub_cancel]; omega) (by omega) F 1 M (by omega) (by omega) (by omega) h5
      obtain ⟨M2, e2, g2⟩ := f58_eq F F n i M1 h3 (by omega) (by omega) g1
      rw [if_pos (by simp; omega), show f38_p8_2 F n j acc F 1 M = _ from e1, Option.bind_some]
      dsimp only
      rw [f58_2_eq, show w64 (((i + 1 : Nat) : Int) - 1) = (i : Int) by rw [w64_in (by omega)]; omega, e2, Option.bind_some]
      dsimp only
      rw [req_pos (by simp; omega), show w64 ((n : Int) - ((i + 1 : Nat) : Int)) = ((n - (i + 1) : Nat) : Int) by rw [w64_in (by omega)]; omega, show w64 ((j : Int) - c n i) = (j' : Int) by rw [w64_in (by omega)]; omega]
      rw [ih K (n - (i + 1)) (i + 1) j' t M2 _ (by omega) (by omega) (by omega) ht g2 (by simp; omega)]
      simp

theorem nth_eq {x1 x2 : Int} (h1 : x1 ≤ 22 ∨ 30 < x1) : ∃ a e, f38 2000 x1 x2 = some (a, e) ∧ f39 2000 x1 x2 = some (a, e) ∧ a.length ≤ 100 := by
  unfold f38 f39
  rw [f15_eq (by omega), f16_eq (by omega), Option.bind_some, Option.bind_some]
  by_cases hx : 0 ≤ x1 ∧ x1 ≤ 22
  · have e0 : (if 0 > x1 then 0 else x1) = x1 := if_neg (by omega)
    obtain ⟨n, rfl⟩ : ∃ n : Nat, x1 = n := ⟨x1.toNat, by omega⟩
    have hn : n ≤ 22 := by omega
    rw [e0, cc_nat (by omega) (by omega)]
    have L := (c_look (n := n) (m := n) (by omega) (by omega)).1
    dsimp only
    rw [if_neg (by decide), if_pos (by decide), f57_eq, f55_eq, w64_in (by omega), Option.bind_some, Option.bind_some]
    by_cases hj : 0 ≤ x2 ∧ x2 ≤ c n n - 1
    · obtain ⟨j, rfl⟩ : ∃ j : Nat, x2 = j := ⟨x2.toNat, by omega⟩
      have hl := al_len 2000 n n (by omega) (by omega) (by omega)
      have hjl : j < (al 2000 n n).length := by omega
      have hg := List.getElem?_eq_getElem hjl
      have hb := al_each 2000 n n _ (List.getElem_mem hjl)
      have e := f38_p4_eq (F := 2000) (by omega) 2000 2000 n n j _ _ [] (by omega) (by omega) (by omega) hg Good.none (by simp; omega)
      rw [decide_eq_true hj]
      simp only [if_true, f39_p0, Option.bind_some]
      rw [e, f59_eq (by omega) 2000 n n (by omega) hn (by omega), Option.bind_some, Option.bind_some, if_neg (by decide), at_of hg, Option.bind_some, take0, List.nil_append]
      exact ⟨_, _, rfl, rfl, by omega⟩
    · rw [decide_eq_false hj]
      exact ⟨[], 1, rfl, rfl, by simp⟩
  · have e1 : cc x1 (if 0 > x1 then 0 else x1) = (0, 1) := by unfold cc; rw [if_neg (by omega)]
    rw [e1]
    exact ⟨[], 1, rfl, rfl, by simp⟩

theorem f5_p2_some {F : Nat} {l : List Int} {a b : Int} (hl : l.length ≤ 100) : ∀ (k i : Nat) (s : Int), i ≤ l.length → l.length < k + i → 0 ≤ s → s ≤ 100 * i →
    ∃ z, f5_p2 F l a b k s i = some z ∧ (chkL 30 l = 0 → z = s + sm (l.drop i)) := by
  intro k
  induction k with
  | zero => intro i s _ h; omega
  | succ k ih =>
    intro i s h1 h2 h3 h4
    unfold f5_p2
    by_cases hi : i < l.length
    · rw [if_pos (by simp; omega), at_of (List.getElem?_eq_getElem hi), Option.bind_some, drop_cons hi, sm_cons]
      rw [show w64 ((i : Int) + 1) = ((i + 1 : Nat) : Int) by rw [w64_in (by omega)]; omega]
      generalize hy : (if 100 < (if 0 > l[i] then 0 else l[i]) then 100 else (if 0 > l[i] then 0 else l[i])) = y
      have hy1 : 0 ≤ y ∧ y ≤ 100 := by rw [← hy]; split <;> split <;> omega
      rw [w64_in (by omega)]
      obtain ⟨z, e1, e2⟩ := ih (i + 1) (s + y) (by omega) (by omega) (by omega) (by omega)
      refine ⟨z, e1, fun h => ?_⟩
      have := chkL_all _ _ h _ (List.getElem_mem hi)
      rw [e2 h, ← hy, if_neg (by omega : ¬ 0 > l[i]), if_neg (by omega : ¬ 100 < l[i])]
      omega
    · rw [if_neg (by simp; omega), List.drop_eq_nil_of_le (by omega)]
      exact ⟨_, rfl, fun _ => by simp [sm]⟩
theorem f5_p2_1_eq {F : Nat} {l : List Int} {a b : Int} : ∀ (k : Nat) (s i : Int), f5_p2_1 F l a b k s i = f5_p2 F l a b k s i := by
  intro k
  induction k with
  | zero => intro _ _; rfl
  | succ k ih => intro s i; simp only [f5_p2_1, f5_p2, ih]

theorem works2 : f19 2000 = some true := by decide +kernel

theorem f5_plain (l : List Int) (x2 x3 : Int) (h2 : -9223372036854775808 ≤ x2 ∧ x2 ≤ 9223372036854775807) (h3 : -9223372036854775808 ≤ x3 ∧ x3 ≤ 9223372036854775807) : f5 2000 l x2 x3 = some true := by
  simp only [f5, f24, Option.bind_some, decide_eq_true_eq]
  by_cases hl : l.length ≤ 100
  · rw [if_neg (by omega)]
    obtain ⟨z, e1, e2⟩ := f5_p2_some (F := 2000) (a := x2) (b := x3) hl 2000 0 0 (by omega) (by omega) (by omega) (by omega)
    have e1 : f5_p2 2000 l x2 x3 2000 0 0 = some z := e1
    rw [List.drop_zero, Int.zero_add] at e2
    have hnum : (z ≤ 22 ∨ z > 30) → ∃ v, f36 2000 l = some v ∧ f37 2000 l = some v := by
      intro hz
      refine number_eq hl fun hc => ?_
      have hcl : chkL 30 l = 0 := by
        unfold chk at hc
        split at hc
        · rename_i h2; exact absurd hc h2
        · rename_i h2; exact Classical.not_not.1 h2
      have hs : sm l ≤ 30 := by
        unfold chk at hc
        rw [if_neg (by simpa using hcl)] at hc
        split at hc
        · cases hc
        · omega
      have := e2 hcl
      omega
    have hnth : (x2 ≤ 22 ∨ 30 < x2) → ∃ a e, f38 2000 x2 x3 = some (a, e) ∧ f39 2000 x2 x3 = some (a, e) ∧ a.length ≤ 100 := nth_eq
    rw [f5_p2_1_eq, e1]
    by_cases hx : x2 > 22
    · rw [if_pos hx]
      by_cases hy : x2 ≤ 30
      · rw [if_pos hy, works2]; rfl
      · rw [if_neg hy]
        obtain ⟨a, e, n1, n2, n3⟩ := hnth (by omega)
        have n4 := f31_eq (F := 2000) (a := a) (b := a) (by omega) (by omega)
        simp only [Option.bind_some, n1, n2, n4, decide_true, if_true, beq_self_eq_true, works2, f5_p5, decide_eq_true_eq]
        by_cases hz : z ≤ 22
        · obtain ⟨v, v1, v2⟩ := hnum (.inl hz)
          rw [if_pos hz, v1, v2]; simp
        · rw [if_neg hz]
          by_cases hz2 : z > 30
          · obtain ⟨v, v1, v2⟩ := hnum (.inr hz2)
            rw [if_pos hz2, v1, v2]; simp
          · rw [if_neg hz2]; rfl
    · rw [if_neg hx]
      obtain ⟨a, e, n1, n2, n3⟩ := hnth (by omega)
      have n4 := f31_eq (F := 2000) (a := a) (b := a) (by omega) (by omega)
      simp only [Option.bind_some, n1, n2, n4, decide_true, if_true, beq_self_eq_true, works2, f5_p5_1, decide_eq_true_eq]
      by_cases hz : z ≤ 22
      · obtain ⟨v, v1, v2⟩ := hnum (.inl hz)
        rw [if_pos hz, v1, v2]; simp
      · rw [if_neg hz]
        by_cases hz2 : z > 30
        · obtain ⟨v, v1, v2⟩ := hnum (.inr hz2)
          rw [if_pos hz2, v1, v2]; simp
        · rw [if_neg hz2]; rfl
  · rw [if_pos (by omega), works2]; rfl

end Go.Gh.Bunch
