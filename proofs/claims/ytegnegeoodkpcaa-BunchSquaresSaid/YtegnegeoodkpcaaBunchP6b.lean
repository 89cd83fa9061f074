/- The law BunchSquares, from what is looked at. -/
import Derived.Test.YtegnegeoodkpcaaBunchB6
namespace Go.Gh.Bunch
set_option linter.unusedVariables false
set_option linter.unusedSimpArgs false

/-- The hooks of those divisions that have some. -/
def hkOf : List (List Int) → Option (List (List Int × List Int))
  | [] => some []
  | d :: r => match f45 2000 d, hkOf r with
    | some (h, e), some t => some (if e = 0 then (h, d) :: t else t)
    | _, _ => none
def fnd (l : List Int) : List (List Int × List Int) → Option (List Int)
  | [] => none
  | p :: r => if p.1 = l then some p.2 else fnd l r
def foldOk (H : List (List Int × List Int)) (l : List Int) : Bool :=
  match f46 2000 l, f66 2000 l, f60 2000 l with
  | some (a, e), some o, some d => decide (a.length ≤ 100) && (if o = true ∧ d = true then (match fnd l H with
      | some x => a == x && e == 0
      | none => a == [] && e == 12) else a == [] && e == 14)
  | _, _, _ => false

theorem hkOf_append : ∀ (a b : List (List Int)) {x y : List (List Int × List Int)}, hkOf a = some x → hkOf b = some y → hkOf (a ++ b) = some (x ++ y) := by
  intro a
  induction a with
  | nil => intro b x y h1 h2; cases h1; exact h2
  | cons d r ih =>
    intro b x y h1 h2
    simp only [hkOf, List.cons_append] at h1 ⊢
    split at h1
    · rename_i h e t e1 e2
      cases h1
      rw [e1, ih b e2 h2]
      dsimp only
      split <;> rfl
    · cases h1
theorem hkOf_cut {L : List (List Int)} (q : Nat) {x y : List (List Int × List Int)} (h1 : hkOf (L.take q) = some x) (h2 : hkOf (L.drop q) = some y) : hkOf L = some (x ++ y) := by
  have := hkOf_append _ _ h1 h2
  rwa [List.take_append_drop] at this
theorem all_cut {L : List (List Int)} (q : Nat) {p : List Int → Bool} (h1 : (L.take q).all p = true) (h2 : (L.drop q).all p = true) : L.all p = true := by
  rw [← List.take_append_drop q L, List.all_append, h1, h2]; rfl

theorem f47_p3_eq {l : List Int} {L : List (List Int)} (hL : ∀ d ∈ L, d.length ≤ 100) (hl : L.length ≤ 1500) : ∀ (k i : Nat) (H : List (List Int × List Int)), i ≤ L.length → L.length < k + i → hkOf (L.drop i) = some H →
    f47_p3 2000 l L k i = some (match fnd l H with | some x => .c0 x | none => .c1) := by
  intro k
  induction k with
  | zero => intro i H _ h; omega
  | succ k ih =>
    intro i H h1 h2 h3
    unfold f47_p3
    by_cases hi : i < L.length
    · obtain ⟨h, e, _, e2, e3⟩ := hooks_eq (hL _ (List.getElem_mem hi))
      rw [drop_cons hi] at h3
      simp only [hkOf, e2] at h3
      cases ht : hkOf (L.drop (i + 1)) with
      | none => rw [ht] at h3; cases h3
      | some t =>
        rw [ht] at h3
        have h3 := Option.some.inj h3
        have ih := ih (i + 1) t (by omega) (by omega) ht
        rw [if_pos (by simp; omega), at_of (List.getElem?_eq_getElem hi), Option.bind_some, e2, Option.bind_some]
        dsimp only
        rw [show w64 ((i : Int) + 1) = ((i + 1 : Nat) : Int) by rw [w64_in (by omega)]; omega]
        by_cases he : e = 0
        · rw [if_pos he] at h3
          subst h3
          rw [if_pos (by simp [he]), f73_eq (by omega) (by omega), Option.bind_some]
          simp only [fnd]
          by_cases hh : h = l
          · rw [if_pos (by simpa using hh), if_pos hh]
          · rw [if_neg (by simpa using hh), if_neg hh]; exact ih
        · rw [if_neg he] at h3
          subst h3
          rw [if_neg (by simpa using he)]; exact ih
    · rw [if_neg (by simp; omega)]
      rw [List.drop_eq_nil_of_le (by omega)] at h3
      cases h3; rfl

theorem fold_eq (look : ∀ n : Nat, n ≤ 22 → ∃ H, hkOf (al 2000 n 30) = some H ∧ (al 2000 n 30).all (foldOk H) = true) {l : List Int} (hl : l.length ≤ 100) (hs : chk l = 0 → sm l ≤ 22) :
    ∃ a e, f46 2000 l = some (a, e) ∧ f47 2000 l = some (a, e) ∧ a.length ≤ 100 := by
  by_cases h : chk l = 0
  · have hs := hs h
    obtain ⟨hc, _⟩ := chk_zero h
    have hx := chkL_all _ _ hc
    have hb := chkL_sm _ _ hc
    obtain ⟨H, e1, e2⟩ := look (sm l).toNat (by omega)
    have hv : Val 30 (sm l).toNat l := chkL_val l 30 hc
    have hat := (al_at (k := 2000) (n := (sm l).toNat) (m := 30) (by omega) (by omega) hv).2.1
    have e3 := List.all_eq_true.1 e2 l (List.mem_of_getElem? hat)
    have hAl := al_small (k := 2000) (n := (sm l).toNat) (m := 30) (by omega) (by omega) (by omega)
    have hloop := f47_p3_eq (l := l) (L := al 2000 (sm l).toNat 30) (fun d hd => Nat.le_trans (al_each _ _ _ d hd) (by omega)) (by omega) 2000 0 H (by omega) (by omega) (by rw [List.drop_zero]; exact e1)
    unfold foldOk at e3
    split at e3
    · rename_i a e o d g1 g2 g3
      rw [Bool.and_eq_true, decide_eq_true_eq] at e3
      obtain ⟨e4, e5⟩ := e3
      refine ⟨a, e, g1, ?_, e4⟩
      unfold f47 f47_p0
      rw [f35_eq hl (by omega), Option.bind_some, if_pos (by simp [h]), g2, Option.bind_some]
      cases o with
      | false =>
        rw [if_neg (by simp)] at e5
        simp only [Bool.and_eq_true, beq_iff_eq] at e5
        rw [if_neg (by simp), e5.1, e5.2]
      | true =>
        rw [if_pos rfl, g3, Option.bind_some]
        cases d with
        | false =>
          rw [if_neg (by simp)] at e5
          simp only [Bool.and_eq_true, beq_iff_eq] at e5
          rw [if_neg (by simp), e5.1, e5.2]
          rfl
        | true =>
          rw [if_pos (by simp)] at e5
          rw [if_pos rfl, Option.bind_some, if_neg (by simp [h]), f71_eq hl (by omega) hx, Option.bind_some]
          have hfe := f59_eq (F := 2000) (by omega) 2000 (sm l).toNat 30 (by omega) (by omega) (by omega)
          rw [Int.toNat_of_nonneg (by omega)] at hfe
          rw [show f59 2000 2000 (sm l) 30 = _ from hfe, Option.bind_some, show f47_p3 2000 l (al 2000 (sm l).toNat 30) 2000 0 = _ from hloop, Option.bind_some]
          cases hf : fnd l H with
          | none =>
            rw [hf] at e5
            simp only [Bool.and_eq_true, beq_iff_eq] at e5
            rw [e5.1, e5.2]
          | some x =>
            rw [hf] at e5
            simp only [Bool.and_eq_true, beq_iff_eq] at e5
            rw [e5.1, e5.2]
    · cases e3
  · unfold f46 f47
    rw [f34_eq hl (by omega), f35_eq hl (by omega), Option.bind_some, Option.bind_some, if_pos (by simpa using h), if_neg (by simpa using h)]
    exact ⟨_, _, rfl, rfl, by simp⟩

theorem f6_p3_some {F : Nat} {l : List Int} (hl : l.length ≤ 100) : ∀ (k i : Nat) (s : Int), i ≤ l.length → l.length < k + i → 0 ≤ s → s ≤ 100 * i →
    ∃ z, f6_p3 F l k s i = some z ∧ (chkL 30 l = 0 → z = s + sm (l.drop i)) := by
  intro k
  induction k with
  | zero => intro i s _ h; omega
  | succ k ih =>
    intro i s h1 h2 h3 h4
    unfold f6_p3
    by_cases hi : i < l.length
    · rw [if_pos (by simp; omega), at_of (List.getElem?_eq_getElem hi), Option.bind_some, drop_cons hi, sm_cons]
      rw [show w64 ((i : Int) + 1) = ((i + 1 : Nat) : Int) by rw [w64_in (by omega)]; omega]
      generalize hy : (if 100 < (if 0 > l[i] then 0 else l[i]) then 100 else (if 0 > l[i] then 0 else l[i])) = y
      have hy1 : 0 ≤ y ∧ y ≤ 100 := by rw [← hy]; split <;> split <;> omega
      rw [w64_in (by omega)]
      obtain ⟨z, e1, e2⟩ := ih (i + 1) (s + y) (by omega) (by omega) (by omega) (by omega)
      refine ⟨z, e1, fun h => ?_⟩
      have := chkL_all _ _ h _ (List.getElem_mem hi)
      rw [e2 h, ← hy, if_neg (by omega : ¬ 0 > l[i]), if_neg (by omega : ¬ 100 < l[i])]
      omega
    · rw [if_neg (by simp; omega), List.drop_eq_nil_of_le (by omega)]
      exact ⟨_, rfl, fun _ => by simp [sm]⟩

theorem f6_of (look : ∀ n : Nat, n ≤ 22 → ∃ H, hkOf (al 2000 n 30) = some H ∧ (al 2000 n 30).all (foldOk H) = true) (works : f19 2000 = some true) (l : List Int) (x : Int) (r b : List Int) : f6 2000 l x r b = some true := by
  unfold f6
  simp only [f24, Option.bind_some, works, decide_eq_true_eq]
  by_cases h1 : l.length ≤ 100
  · rw [if_neg (by omega)]
    by_cases h2 : r.length ≤ 100
    · rw [if_neg (by omega)]
      by_cases h3 : b.length ≤ 100
      · rw [if_neg (by omega)]
        obtain ⟨a1, a2, a3, a4, p1, p2, p3, p4⟩ := square_eq (F := 2000) (by omega) h1
        obtain ⟨b1, b2, q1, q2, q3⟩ := join_eq (x := x) h2 h3
        obtain ⟨c1, c2, s1, s2, s3⟩ := hooks_eq h1
        obtain ⟨z, e1, e2⟩ := f6_p3_some (F := 2000) h1 2000 0 0 (by omega) (by omega) (by omega) (by omega)
        rw [List.drop_zero, Int.zero_add] at e2
        have e1 : f6_p3 2000 l 2000 0 0 = some z := e1
        have t1 := f31_eq (F := 2000) (a := a2) (b := a2) (by omega) (by omega)
        have t2 := f31_eq (F := 2000) (a := a3) (b := a3) (by omega) (by omega)
        have t3 := f31_eq (F := 2000) (a := b1) (b := b1) (by omega) (by omega)
        have t4 := f31_eq (F := 2000) (a := c1) (b := c1) (by omega) (by omega)
        simp only [p1, p2, q1, q2, s1, s2, Option.bind_some, bne_self_eq_false, Bool.false_eq_true, if_false, t1, t2, t3, t4, decide_true, if_true, e1]
        have hfold : (chk l = 0 → sm l ≤ 22) → ∃ a e, f46 2000 l = some (a, e) ∧ f47 2000 l = some (a, e) ∧ a.length ≤ 100 := fold_eq look h1
        by_cases hz : z > 22
        · rw [if_pos hz]
          by_cases hz2 : z ≤ 30
          · rw [if_pos hz2]
          · rw [if_neg hz2]
            obtain ⟨a, e, u1, u2, u3⟩ := hfold (fun hc => by
              obtain ⟨g1, g2⟩ := chk_zero hc
              have := e2 g1
              omega)
            have t5 := f31_eq (F := 2000) (a := a) (b := a) (by omega) (by omega)
            simp only [u1, u2, Option.bind_some, t5, decide_true, if_true, beq_self_eq_true]
        · rw [if_neg hz]
          obtain ⟨a, e, u1, u2, u3⟩ := hfold (fun hc => by
            obtain ⟨g1, g2⟩ := chk_zero hc
            have := e2 g1
            omega)
          have t5 := f31_eq (F := 2000) (a := a) (b := a) (by omega) (by omega)
          simp only [u1, u2, Option.bind_some, t5, decide_true, if_true, beq_self_eq_true]
      · rw [if_pos (by omega)]
    · rw [if_pos (by omega)]
  · rw [if_pos (by omega)]

end Go.Gh.Bunch
