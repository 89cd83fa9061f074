/- What is needed of the plain texts. -/
import Derived.Test.YtkjlgbnbpeijbaaPack13N0
namespace Go.Gh.Pack
set_option linter.unusedVariables false
set_option linter.unusedSimpArgs false

section
theorem w64_in {n : Int} (h : -9223372036854775808 ≤ n ∧ n < 9223372036854775808) : w64 n = n := by
  unfold w64 IntKind.wrap
  simp [IntKind.bits, IntKind.signed]
  split <;> omega
theorem w64_nat {n : Nat} (h : n < 1000000000) : w64 (n : Int) = n := w64_in (by omega)
theorem w64_succ {n : Nat} (h : n < 1000000000) : w64 ((n : Int) + 1) = ((n + 1 : Nat) : Int) := by rw [w64_in (by omega)]; omega
theorem at_of {α : Type} {l : List α} {i : Nat} {x : α} (h : l[i]? = some x) : at? l ((i : Nat) : Int) = some x := by
  unfold at?; simp [h]
theorem at_get {α : Type} {l : List α} {i : Nat} (h : i < l.length) : at? l ((i : Nat) : Int) = some l[i] := at_of (List.getElem?_eq_getElem h)
theorem req_pos {α : Type} {p : Prop} [Decidable p] {x : Option α} (h : p) : req p x = x := by unfold req; rw [if_pos h]
theorem take0 {α : Type} (l : List α) : List.drop 0 (List.take (0 + l.length) l) = l := by simp
theorem drop_cons {α : Type} {l : List α} {i : Nat} (h : i < l.length) : l.drop i = l[i] :: l.drop (i + 1) := List.drop_eq_getElem_cons h
theorem f67_eq {F : Nat} {x a b : Int} : f67 F x a b = some (decide (a ≤ x ∧ x ≤ b)) := by
  unfold f67
  by_cases h : a ≤ x <;> simp [h]
theorem f69_eq {F : Nat} {x a b : Int} : f69 F x a b = some (decide (a ≤ x ∧ x ≤ b)) := by
  unfold f69
  by_cases h : a ≤ x <;> simp [h]
theorem f23_p2_eq {F : Nat} {a b : List Int} (hab : a.length = b.length) (ha : a.length ≤ 5000) : ∀ (k i : Nat), i ≤ a.length → a.length < k + i → f23_p2 F a b k i = some (if a.drop i = b.drop i then .c1 else .c0) := by
  intro k
  induction k with
  | zero => intro i _ h; omega
  | succ k ih =>
    intro i h1 h2
    unfold f23_p2
    by_cases hi : i < a.length
    · rw [if_pos (by simp; omega), at_get hi, at_get (by omega : i < b.length), Option.bind_some, Option.bind_some]
      have e : (List.drop i a = List.drop i b) = (a[i] = b[i] ∧ List.drop (i + 1) a = List.drop (i + 1) b) := by rw [drop_cons hi, drop_cons (by omega : i < b.length), List.cons.injEq]
      simp only [e]
      by_cases he : a[i] = b[i]
      · rw [if_neg (by simp [he]), w64_succ (by omega), ih (i + 1) (by omega) (by omega)]
        simp only [he, true_and]
      · rw [if_pos (by simp [he]), if_neg (fun h => he h.1)]
    · rw [if_neg (by simp; omega), List.drop_eq_nil_of_le (by omega), List.drop_eq_nil_of_le (by omega)]
      rfl
theorem f23_eq {F : Nat} {a b : List Int} (ha : a.length < F) (hF : F ≤ 5000) : f23 F a b = some (decide (a = b)) := by
  unfold f23
  by_cases hab : a.length = b.length
  · have h := f23_p2_eq (F := F) hab (by omega) F 0 (by omega) (by omega)
    rw [List.drop_zero, List.drop_zero] at h
    rw [if_neg (by simp [hab]), show f23_p2 F a b F 0 = _ from h, Option.bind_some]
    by_cases he : a = b
    · rw [if_pos he, decide_eq_true he]
    · rw [if_neg he, decide_eq_false he]
  · rw [if_pos (by simp; omega), decide_eq_false (fun h => hab (by rw [h]))]

def ckL : Int → List Int → Int
  | _, [] => 0
  | p, x :: r => if 1 ≤ x ∧ x ≤ 30 then (if x ≤ p then 7 else ckL x r) else 1
def ck (l : List Int) : Int := if l.length = 0 then 4 else if l.length > 5 then 3 else ckL 0 l
theorem f26_p4_eq {F : Nat} {l : List Int} (hl : l.length ≤ 5) : ∀ (k i : Nat) (p : Int), i ≤ l.length → l.length < k + i →
    ∃ z, f26_p4 F l k p i = some z ∧ (ckL p (l.drop i) ≠ 0 → z = .c0 (ckL p (l.drop i))) ∧ (ckL p (l.drop i) = 0 → z = .c1) := by
  intro k
  induction k with
  | zero => intro i p _ h; omega
  | succ k ih =>
    intro i p h1 h2
    unfold f26_p4
    by_cases hi : i < l.length
    · rw [if_pos (by simp; omega), at_get hi, drop_cons hi]
      simp only [Option.bind_some, f67_eq, decide_eq_true_eq, ckL]
      by_cases hx : 1 ≤ l[i] ∧ l[i] ≤ 30
      · rw [if_pos hx, if_pos hx]
        by_cases hp : l[i] ≤ p
        · rw [if_pos hp, if_pos hp]
          exact ⟨_, rfl, fun _ => rfl, fun h => by cases h⟩
        · rw [if_neg hp, if_neg hp, w64_succ (by omega)]
          exact ih (i + 1) l[i] (by omega) (by omega)
      · rw [if_neg hx, if_neg hx]
        exact ⟨_, rfl, fun _ => rfl, fun h => by cases h⟩
    · rw [if_neg (by simp; omega), List.drop_eq_nil_of_le (by omega)]
      exact ⟨_, rfl, fun h => absurd rfl h, fun _ => rfl⟩
theorem f26_eq {F : Nat} {l : List Int} (hF : 10 ≤ F) : f26 F l = some (ck l) := by
  unfold f26 ck
  by_cases h0 : l.length = 0
  · rw [if_pos (by simp [h0]), if_pos h0]
  · rw [if_neg (by simp; intro h; exact h0 (by simp [h])), if_neg h0]
    by_cases h5 : l.length > 5
    · rw [if_pos (by simp; omega), if_pos h5]
    · rw [if_neg (by simp; omega), if_neg h5]
      obtain ⟨z, e1, e2, e3⟩ := f26_p4_eq (F := F) (l := l) (by omega) F 0 0 (by omega) (by omega)
      rw [List.drop_zero] at e2 e3
      rw [show f26_p4 F l F 0 0 = some z from e1, Option.bind_some]
      by_cases h : ckL 0 l = 0
      · rw [e3 h, h]
      · rw [e2 h]
theorem f27_p3_eq {F : Nat} {l : List Int} (hl : l.length ≤ 5) : ∀ (k i : Nat) (p : Int), i ≤ l.length → l.length < k + i → (i = 0 → p = 0) → (∀ h : 0 < i, ∀ h2 : i - 1 < l.length, p = l[i - 1]) →
    ∃ z, f27_p3 F l k i = some z ∧ (ckL p (l.drop i) ≠ 0 → z = .c0 (ckL p (l.drop i))) ∧ (ckL p (l.drop i) = 0 → z = .c1) := by
  intro k
  induction k with
  | zero => intro i p _ h; omega
  | succ k ih =>
    intro i p h1 h2 h3 h4
    unfold f27_p3
    by_cases hi : i < l.length
    · have ih' := ih (i + 1) l[i] (by omega) (by omega) (by omega) (fun _ _ => by simp only [Nat.add_sub_cancel])
      rw [if_pos (by simp; omega), at_get hi, drop_cons hi]
      simp only [Option.bind_some, f69_eq, decide_eq_true_eq, ckL]
      by_cases hx : 1 ≤ l[i] ∧ l[i] ≤ 30
      · rw [if_pos hx, if_pos hx]
        by_cases h0 : i = 0
        · have hp := h3 h0
          rw [if_neg (by omega), if_neg (by omega), w64_succ (by omega)]
          exact ih'
        · have hp := h4 (by omega) (by omega)
          rw [if_pos (by omega), show w64 ((i : Int) - 1) = ((i - 1 : Nat) : Int) by rw [w64_in (by omega)]; omega, at_get (by omega : i - 1 < l.length), Option.bind_some, ← hp]
          by_cases hq : l[i] ≤ p
          · rw [if_pos hq, if_pos hq]
            exact ⟨_, rfl, fun _ => rfl, fun h => by cases h⟩
          · rw [if_neg hq, if_neg hq, w64_succ (by omega)]
            exact ih'
      · rw [if_neg hx, if_neg hx]
        exact ⟨_, rfl, fun _ => rfl, fun h => by cases h⟩
    · rw [if_neg (by simp; omega), List.drop_eq_nil_of_le (by omega)]
      exact ⟨_, rfl, fun h => absurd rfl h, fun _ => rfl⟩
theorem f27_eq {F : Nat} {l : List Int} (hF : 10 ≤ F) : f27 F l = some (ck l) := by
  unfold f27 ck
  by_cases h0 : l.length = 0
  · rw [if_pos (by simp [h0]), if_pos h0]
  · rw [if_neg (by simp; intro h; exact h0 (by simp [h])), if_neg h0]
    by_cases h5 : l.length > 5
    · rw [if_pos (by simp; omega), if_pos h5]
    · rw [if_neg (by simp; omega), if_neg h5]
      obtain ⟨z, e1, e2, e3⟩ := f27_p3_eq (F := F) (l := l) (by omega) F 0 0 (by omega) (by omega) (fun _ => rfl) (fun h => by omega)
      rw [List.drop_zero] at e2 e3
      rw [show f27_p3 F l F 0 = some z from e1, Option.bind_some]
      by_cases h : ckL 0 l = 0
      · rw [e3 h, h]
      · rw [e2 h]
theorem ckL_all : ∀ (l : List Int) (p : Int), ckL p l = 0 → ∀ x ∈ l, 1 ≤ x ∧ x ≤ 30 ∧ p < x := by
  intro l
  induction l with
  | nil => intro _ _ x hx; cases hx
  | cons y r ih =>
    intro p h x hx
    simp only [ckL] at h
    split at h
    · rename_i hy
      split at h
      · cases h
      · rcases List.mem_cons.1 hx with rfl | hx
        · omega
        · have := ih _ h x hx
          omega
    · cases h
theorem ck_zero {l : List Int} (h : ck l = 0) : 0 < l.length ∧ l.length ≤ 5 ∧ ckL 0 l = 0 := by
  unfold ck at h
  split at h
  · cases h
  · split at h
    · cases h
    · exact ⟨by omega, by omega, h⟩
theorem ck_all {l : List Int} (h : ck l = 0) : ∀ x ∈ l, 1 ≤ x ∧ x ≤ 30 := fun x hx => by
  have := ckL_all _ _ (ck_zero h).2.2 x hx
  omega

def stOk (l : List Int) : Bool := l.all fun x => decide (0 ≤ x ∧ x ≤ 40)
theorem stOk_iff {l : List Int} : stOk l = true ↔ ∀ x ∈ l, 0 ≤ x ∧ x ≤ 40 := by simp [stOk]
def stk (a b : List Int) : Int := if ck a = 0 then (if b.length = a.length then (if stOk b = true then 0 else 1) else 5) else ck a
theorem f92_p2_eq {F : Nat} {l : List Int} (hl : l.length ≤ 40) : ∀ (k i : Nat) (m : Int), i ≤ l.length → l.length < k + i → ∃ v, f92_p2 F l k m i = some v ∧ (v < 0 ↔ m < 0 ∨ ∃ x ∈ l.drop i, x < 0) := by
  intro k
  induction k with
  | zero => intro i m _ h; omega
  | succ k ih =>
    intro i m h1 h2
    unfold f92_p2
    by_cases hi : i < l.length
    · rw [if_pos (by simp; omega), at_get hi, Option.bind_some, w64_succ (by omega)]
      obtain ⟨v, e1, e2⟩ := ih (i + 1) (if l[i] < m then l[i] else m) (by omega) (by omega)
      refine ⟨v, e1, e2.trans ?_⟩
      rw [drop_cons hi]
      simp only [List.mem_cons, exists_eq_or_imp]
      have : (if l[i] < m then l[i] else m) < 0 ↔ m < 0 ∨ l[i] < 0 := by split <;> omega
      rw [this, or_assoc]
    · rw [if_neg (by simp; omega), List.drop_eq_nil_of_le (by omega)]
      exact ⟨m, rfl, by simp⟩
theorem f92_eq {F : Nat} {l : List Int} (hF : 100 ≤ F) (h0 : 0 < l.length) (hl : l.length ≤ 40) : ∃ v, f92 F l = some v ∧ (v < 0 ↔ ∃ x ∈ l, x < 0) := by
  unfold f92 f92_p0
  rw [if_neg (by simp; omega), Option.bind_some, show at? l 0 = some l[0] from at_get h0, Option.bind_some]
  obtain ⟨v, e1, e2⟩ := f92_p2_eq (F := F) hl F 1 l[0] (by omega) (by omega)
  rw [show f92_p2 F l F l[0] 1 = some v from e1, Option.bind_some]
  refine ⟨v, rfl, e2.trans ?_⟩
  have e : l = l[0] :: l.drop 1 := by have := drop_cons h0; rwa [List.drop_zero] at this
  constructor
  · rintro (h | ⟨x, hx, h⟩)
    · exact ⟨l[0], List.getElem_mem h0, h⟩
    · exact ⟨x, List.mem_of_mem_drop hx, h⟩
  · rintro ⟨x, hx, h⟩
    rw [e] at hx
    rcases List.mem_cons.1 hx with rfl | hx
    · exact .inl h
    · exact .inr ⟨x, hx, h⟩
theorem f85_p2_eq {F : Nat} {l : List Int} (hl : l.length ≤ 40) : ∀ (k i : Nat) (m : Int), i ≤ l.length → l.length < k + i → ∃ v, f85_p2 F l k m i = some v ∧ (v > 40 ↔ m > 40 ∨ ∃ x ∈ l.drop i, x > 40) := by
  intro k
  induction k with
  | zero => intro i m _ h; omega
  | succ k ih =>
    intro i m h1 h2
    unfold f85_p2
    by_cases hi : i < l.length
    · rw [if_pos (by simp; omega), at_get hi, Option.bind_some, w64_succ (by omega)]
      obtain ⟨v, e1, e2⟩ := ih (i + 1) (if l[i] > m then l[i] else m) (by omega) (by omega)
      refine ⟨v, e1, e2.trans ?_⟩
      rw [drop_cons hi]
      simp only [List.mem_cons, exists_eq_or_imp]
      have : (if l[i] > m then l[i] else m) > 40 ↔ m > 40 ∨ l[i] > 40 := by split <;> omega
      rw [this, or_assoc]
    · rw [if_neg (by simp; omega), List.drop_eq_nil_of_le (by omega)]
      exact ⟨m, rfl, by simp⟩
theorem f85_eq {F : Nat} {l : List Int} (hF : 100 ≤ F) (h0 : 0 < l.length) (hl : l.length ≤ 40) : ∃ v, f85 F l = some v ∧ (v > 40 ↔ ∃ x ∈ l, x > 40) := by
  unfold f85 f85_p0
  rw [if_neg (by simp; omega), Option.bind_some, show at? l 0 = some l[0] from at_get h0, Option.bind_some]
  obtain ⟨v, e1, e2⟩ := f85_p2_eq (F := F) hl F 1 l[0] (by omega) (by omega)
  rw [show f85_p2 F l F l[0] 1 = some v from e1, Option.bind_some]
  refine ⟨v, rfl, e2.trans ?_⟩
  have e : l = l[0] :: l.drop 1 := by have := drop_cons h0; rwa [List.drop_zero] at this
  constructor
  · rintro (h | ⟨x, hx, h⟩)
    · exact ⟨l[0], List.getElem_mem h0, h⟩
    · exact ⟨x, List.mem_of_mem_drop hx, h⟩
  · rintro ⟨x, hx, h⟩
    rw [e] at hx
    rcases List.mem_cons.1 hx with rfl | hx
    · exact .inl h
    · exact .inr ⟨x, hx, h⟩
theorem f77_eq {F : Nat} {a b : List Int} (hF : 100 ≤ F) (hb : b.length ≤ 40) : f77 F a b = some (if stk a b = 0 then (a, b, 0) else ([], [], stk a b)) := by
  unfold f77 stk
  rw [f26_eq (by omega), Option.bind_some]
  by_cases h1 : ck a = 0
  · obtain ⟨h0, h5, _⟩ := ck_zero h1
    rw [if_neg (by simp [h1]), if_pos h1]
    by_cases h2 : b.length = a.length
    · rw [if_neg (by simp [h2]), if_pos h2]
      obtain ⟨v, e1, e2⟩ := f92_eq hF (l := b) (by omega) hb
      obtain ⟨u, e3, e4⟩ := f85_eq hF (l := b) (by omega) hb
      rw [e1, Option.bind_some]
      by_cases h3 : v < 0
      · have hs : ¬ stOk b = true := fun h => by
          obtain ⟨x, hx, hx0⟩ := e2.1 h3
          have := stOk_iff.1 h x hx
          omega
        rw [if_pos (by simpa using h3), if_neg hs, if_neg (by decide)]
      · rw [if_neg (by simpa using h3), e3, Option.bind_some]
        by_cases h4 : u > 40
        · have hs : ¬ stOk b = true := fun h => by
            obtain ⟨x, hx, hx0⟩ := e4.1 h4
            have := stOk_iff.1 h x hx
            omega
          rw [if_pos (by simpa using h4), if_neg hs, if_neg (by decide)]
        · have hs : stOk b = true := stOk_iff.2 fun x hx => by
            have g1 : ¬ x < 0 := fun h => h3 (e2.2 ⟨x, hx, h⟩)
            have g2 : ¬ x > 40 := fun h => h4 (e4.2 ⟨x, hx, h⟩)
            omega
          rw [if_neg (by simpa using h4), if_pos hs, if_pos rfl]
    · rw [if_pos (by simp; omega), if_neg h2, if_neg (by decide)]
  · rw [if_pos (by simpa using h1), if_neg h1, if_neg h1]
theorem f75_p2_eq {F : Nat} {b : List Int} (hb : b.length ≤ 40) : ∀ (k i : Nat), i ≤ b.length → b.length < k + i → f75_p2 F b k 0 i = some (if stOk (b.drop i) = true then 0 else 1) := by
  intro k
  induction k with
  | zero => intro i _ h; omega
  | succ k ih =>
    intro i h1 h2
    unfold f75_p2
    by_cases hi : i < b.length
    · rw [if_pos (by simp; omega), if_pos (by decide), at_get hi, Option.bind_some, f69_eq, Option.bind_some, drop_cons hi, w64_succ (by omega)]
      unfold f75_p5
      by_cases h : 0 ≤ b[i] ∧ b[i] ≤ 40
      · rw [if_pos (by simpa using h), Option.bind_some, ih (i + 1) (by omega) (by omega)]
        have : stOk (b[i] :: b.drop (i + 1)) = stOk (b.drop (i + 1)) := by
          unfold stOk; rw [List.all_cons, decide_eq_true h, Bool.true_and]
        rw [this]
      · rw [if_neg (by simpa using h), Option.bind_some]
        have : ¬ stOk (b[i] :: b.drop (i + 1)) = true := fun hs => h (stOk_iff.1 hs _ (List.mem_cons_self ..))
        rw [if_neg this]
        cases k with
        | zero => omega
        | succ k =>
          unfold f75_p2
          split
          · rw [if_neg (by decide)]
          · rfl
    · rw [if_neg (by simp; omega), List.drop_eq_nil_of_le (by omega)]
      rfl
theorem f75_p2_stop {F : Nat} {b : List Int} {e : Int} (he : e ≠ 0) (k : Nat) (i : Int) : f75_p2 F b (k + 1) e i = some e := by
  unfold f75_p2
  split
  · rw [if_neg (by simpa using he)]
  · rfl
theorem f75_p2_1_stop {F : Nat} {b : List Int} {e : Int} (he : e ≠ 0) (k : Nat) (i : Int) : f75_p2_1 F b (k + 1) e i = some e := by
  unfold f75_p2_1
  split
  · rw [if_neg (by simpa using he)]
  · rfl
theorem f75_eq {F : Nat} {a b : List Int} (hF : 100 ≤ F) (hb : b.length ≤ 40) : f75 F a b = some (stk a b) := by
  obtain ⟨G, rfl⟩ : ∃ G, F = G + 1 := ⟨F - 1, by omega⟩
  unfold f75 stk
  rw [f27_eq (by omega), Option.bind_some]
  by_cases h1 : ck a = 0
  · rw [if_pos (by simp [h1]), if_pos h1]
    unfold f75_p0
    by_cases h2 : b.length = a.length
    · rw [if_neg (by simp [h2]), if_pos h2, Option.bind_some, h1]
      have e := f75_p2_eq (F := G + 1) hb (G + 1) 0 (by omega) (by omega)
      rw [List.drop_zero] at e
      rw [show f75_p2 (G + 1) b (G + 1) 0 0 = _ from e, Option.bind_some]
    · rw [if_pos (by simp; omega), if_neg h2, Option.bind_some, f75_p2_stop (by decide), Option.bind_some]
  · rw [if_neg (by simpa using h1), if_neg h1, f75_p2_1_stop h1, Option.bind_some]
def od (a b : List Int) (n : Int) : Int := if stk a b = 0 then (if 0 ≤ n ∧ n ≤ 1000 then 0 else 1) else stk a b
theorem od_zero {a b : List Int} {n : Int} (h : od a b n = 0) : stk a b = 0 ∧ 0 ≤ n ∧ n ≤ 1000 := by
  unfold od at h
  split at h
  · rename_i h1
    split at h
    · rename_i h2; exact ⟨h1, h2⟩
    · cases h
  · rename_i h1; exact absurd h h1
theorem f73_eq {F : Nat} {a b : List Int} {n : Int} (hF : 100 ≤ F) (hb : b.length ≤ 40) : f73 F a b n = some (if stk a b = 0 then (a, b, od a b n) else ([], [], od a b n)) := by
  unfold f73 f73_p0 od
  rw [f77_eq hF hb, Option.bind_some]
  by_cases h : stk a b = 0
  · simp only [if_pos h, beq_self_eq_true, if_true, f67_eq, Option.bind_some, decide_eq_true_eq]
    by_cases hn : 0 ≤ n ∧ n ≤ 1000
    · rw [if_pos hn, if_pos hn, Option.bind_some]
    · rw [if_neg hn, if_neg hn, Option.bind_some]
  · simp only [if_neg h, beq_iff_eq, if_false]
theorem f62_eq {F : Nat} {a b : List Int} {n : Int} : f62 F (stk a b) n = some (od a b n) := by
  unfold f62 f62_p0 od
  by_cases h : stk a b = 0
  · simp only [h, beq_self_eq_true, if_true, f69_eq, Option.bind_some, decide_eq_true_eq]
    by_cases hn : 0 ≤ n ∧ n ≤ 1000
    · rw [if_pos hn, if_pos hn, Option.bind_some]
    · rw [if_neg hn, if_neg hn, Option.bind_some]
  · simp only [if_neg h, beq_iff_eq, if_false]
theorem stk_zero {a b : List Int} (h : stk a b = 0) : ck a = 0 ∧ b.length = a.length ∧ ∀ x ∈ b, 0 ≤ x ∧ x ≤ 40 := by
  unfold stk at h
  split at h
  · rename_i h1
    split at h
    · rename_i h2
      split at h
      · rename_i h3; exact ⟨h1, h2, stOk_iff.1 h3⟩
      · cases h
    · cases h
  · rename_i h1; exact absurd h h1
end
section
end
section
def ws (s : Nat) (g : Nat → Int) : Nat → Nat → Int
  | 0, _ => 0
  | c + 1, x => g x + (if s ≤ x then ws s g c (x - s) else 0)
theorem ws_last {s : Nat} {g : Nat → Int} : ∀ c x : Nat, ws s g (c + 1) x = ws s g c x + (if c * s ≤ x then g (x - c * s) else 0)
  | 0, x => by simp [ws]
  | c + 1, x => by
    have e : (c + 1) * s = c * s + s := by rw [Nat.add_mul, Nat.one_mul]
    have d1 : ws s g (c + 1 + 1) x = g x + (if s ≤ x then ws s g (c + 1) (x - s) else 0) := rfl
    have d2 : ws s g (c + 1) x = g x + (if s ≤ x then ws s g c (x - s) else 0) := rfl
    rw [d1, d2, e]
    by_cases h : s ≤ x
    · rw [if_pos h, if_pos h, ws_last c (x - s)]
      by_cases h2 : c * s ≤ x - s
      · rw [if_pos h2, if_pos (by omega), show x - s - c * s = x - (c * s + s) by omega]; omega
      · rw [if_neg h2, if_neg (by omega)]; omega
    · rw [if_neg h, if_neg h, if_neg (by omega)]; omega
theorem ws_step {s : Nat} {g : Nat → Int} {c x : Nat} (h : s ≤ x) : ws s g (c + 1) x = g x + ws s g (c + 1) (x - s) - (if (c + 1) * s ≤ x then g (x - (c + 1) * s) else 0) := by
  have e : (c + 1) * s = c * s + s := by rw [Nat.add_mul, Nat.one_mul]
  rw [ws_last c (x - s), ws, if_pos h, e]
  by_cases h2 : c * s ≤ x - s
  · rw [if_pos h2, if_pos (by omega), show x - s - c * s = x - (c * s + s) by omega]; omega
  · rw [if_neg h2, if_neg (by omega)]; omega
theorem ws_small {s : Nat} {g : Nat → Int} {c x : Nat} (h : x < s) : ws s g (c + 1) x = g x := by rw [ws, if_neg (by omega)]; omega
theorem ws_bd {s : Nat} {g : Nat → Int} {B : Int} (hg : ∀ y, 0 ≤ g y ∧ g y ≤ B) : ∀ c x : Nat, 0 ≤ ws s g c x ∧ ws s g c x ≤ c * B
  | 0, x => by simp [ws]
  | c + 1, x => by
    have h1 := hg x
    have h2 := ws_bd (s := s) hg c (x - s)
    have h3 := hg 0
    have e : ((c + 1 : Nat) : Int) * B = c * B + B := by rw [Int.natCast_add, Int.add_mul]; simp
    have h4 : 0 ≤ (c : Int) * B := Int.mul_nonneg (by omega) (by omega)
    rw [ws, e]
    split <;> omega
def tab (N : Nat) (g : Nat → Int) : List Int := (List.range N).map g
theorem tab_len (N : Nat) (g : Nat → Int) : (tab N g).length = N := by simp [tab]
theorem tab_get {N i : Nat} (g : Nat → Int) (h : i < N) : (tab N g)[i]? = some (g i) := by
  unfold tab
  rw [List.getElem?_map, List.getElem?_range h]; rfl
theorem tab_at {N i : Nat} (g : Nat → Int) (h : i < N) : at? (tab N g) (i : Int) = some (g i) := at_of (tab_get g h)
theorem tab_congr {N : Nat} {g h : Nat → Int} (e : ∀ y, y < N → g y = h y) : tab N g = tab N h :=
  List.map_congr_left fun y hy => e y (List.mem_range.1 hy)
theorem tab_set {N i : Nat} (g : Nat → Int) (v : Int) : (tab N g).set i v = tab N (fun y => if y = i then v else g y) := by
  apply List.ext_getElem?
  intro k
  by_cases hk : k < N
  · rw [tab_get _ hk, List.getElem?_set, tab_len]
    by_cases h : i = k
    · subst h; simp [hk]
    · rw [if_neg h, tab_get _ hk, if_neg (fun e => h e.symm)]
  · rw [List.getElem?_eq_none (by simp [tab_len]; omega), List.getElem?_eq_none (by simp [tab_len]; omega)]
theorem tab_zero (N : Nat) : List.replicate N (0 : Int) = tab N (fun _ => 0) := by
  apply List.ext_getElem?
  intro k
  by_cases hk : k < N
  · rw [tab_get _ hk, List.getElem?_replicate, if_pos hk]
  · rw [List.getElem?_eq_none (by simp; omega), List.getElem?_eq_none (by simp [tab_len]; omega)]
theorem take_tab (N : Nat) (g : Nat → Int) : List.drop 0 (List.take (0 + N) (tab N g)) = tab N g := by
  rw [List.drop_zero, Nat.zero_add, List.take_of_length_le (by rw [tab_len]; exact Nat.le_refl _)]
def wf : (Nat → Int) → List Int → List Int → Nat → Int
  | g, s :: a, c :: b => wf (ws s.toNat g (c.toNat + 1)) a b
  | g, [], _ => g
  | g, _, [] => g
def g0 : Nat → Int := fun y => if y = 0 then 1 else 0
def W (a b : List Int) : Nat → Int := wf g0 a b
theorem f47m_eq {F : Nat} {l : List Int} (hl : l.length ≤ 5000) : f47m F l = some l := by
  unfold f47m
  cases l with
  | nil => rfl
  | cons x r =>
    simp only [nilm, f47, Option.isNone_some, Option.getD_some]
    rw [if_neg (by decide), req_pos (by simp at hl ⊢; omega)]
    simp
theorem f47_1m_eq {F : Nat} {l : List Int} (hl : l.length ≤ 5000) : f47_1m F l = some l := by
  unfold f47_1m
  cases l with
  | nil => rfl
  | cons x r =>
    simp only [nilm, f47_1, Option.isNone_some, Option.getD_some]
    rw [if_neg (by decide), req_pos (by simp at hl ⊢; omega)]
    simp
theorem cs_cast {c s : Nat} (hs : 1 ≤ s ∧ s ≤ 30) (hc : c ≤ 41) : w64 ((c : Int) * s) = ((c * s : Nat) : Int) ∧ c * s ≤ 1230 := by
  have h : c * s ≤ 41 * 30 := Nat.mul_le_mul hc hs.2
  have e : (c : Int) * s = ((c * s : Nat) : Int) := by rw [Int.natCast_mul]
  refine ⟨?_, by omega⟩
  rw [e, w64_in (by omega)]
theorem f74_p5_eq {F : Nat} {a b x36 : List Int} {g : Nat → Int} {s c i : Nat} (hs : 1 ≤ s ∧ s ≤ 30) (hc : c ≤ 40) (hb : b[i]? = some (c : Int)) (hx : x36.length = 1001) (hg : ∀ y, 0 ≤ g y ∧ g y ≤ 115856201) :
    ∀ (k x : Nat) (h : Nat → Int), s ≤ x → x ≤ 1001 → 1001 < k + x → (∀ y, h y = if y < x then ws s g (c + 1) y else g y) →
    f74_p5_1 F (tab 1001 g) i s x36 a b k x (tab 1001 h) = some (tab 1001 (ws s g (c + 1))) := by
  intro k
  induction k with
  | zero => intro x h _ h1 h2; omega
  | succ k ih =>
    intro x h h0 h1 h2 hh
    unfold f74_p5_1
    by_cases hx1 : x ≤ 1000
    · have hgx := hg x
      have hw := ws_bd (s := s) hg (c + 1) (x - s)
      have hw' : ws s g (c + 1) (x - s) ≤ 41 * 115856201 := by
        have : ((c + 1 : Nat) : Int) * 115856201 ≤ 41 * 115856201 := Int.mul_le_mul_of_nonneg_right (by omega) (by decide)
        omega
      have e1 : h x = g x := by rw [hh, if_neg (by omega)]
      have e2 : h (x - s) = ws s g (c + 1) (x - s) := by rw [hh, if_pos (by omega)]
      have ex : w64 ((x : Int) - s) = ((x - s : Nat) : Int) := by rw [w64_in (by omega)]; omega
      have hcs := cs_cast (c := c + 1) hs (by omega)
      rw [if_pos (by simp; omega), req_pos (by rw [hx]; omega), Int.toNat_natCast, Nat.zero_add, tab_get _ (by omega), Option.bind_some, ex, req_pos (by rw [hx]; omega), Int.toNat_natCast, Nat.zero_add, tab_get _ (by omega), Option.bind_some, req_pos (by rw [tab_len]; omega), at_of hb, Option.bind_some, e1, e2]
      have hstep := ws_step (g := g) (c := c) h0
      have fin : f74_p8_5 F (tab 1001 g) i s x36 x c a (tab 1001 h) (g x) (ws s g (c + 1) (x - s)) b = some (tab 1001 (fun y => if y = x then ws s g (c + 1) x else h y)) := by
        unfold f74_p8_5
        have e3 : w64 ((x : Int) - w64 (w64 ((c : Int) + 1) * s)) = (x : Int) - (((c + 1) * s : Nat) : Int) := by
          rw [w64_succ (by omega), hcs.1, w64_in (by omega)]
        rw [e3, Int.toNat_natCast, Nat.zero_add, w64_in (n := g x + ws s g (c + 1) (x - s)) (by omega), tab_set]
        clear e3 hcs
        generalize (c + 1) * s = q at *
        by_cases hf : q ≤ x
        · have hgf := hg (x - q)
          rw [if_pos hf] at hstep
          rw [if_pos (by simp; omega), req_pos (by rw [hx]; omega), tab_get _ (by omega), Option.bind_some, show (x : Int) - ((q : Nat) : Int) = ((x - q : Nat) : Int) by omega, tab_at _ (by omega), Option.bind_some, req_pos (by rw [tab_len]; omega), tab_set, if_pos rfl]
          refine congrArg some (tab_congr fun y _ => ?_)
          by_cases hy : y = x
          · rw [if_pos hy, if_pos hy, w64_in (by omega)]; omega
          · rw [if_neg hy, if_neg hy, if_neg hy]
        · rw [if_neg hf] at hstep
          rw [if_neg (by simp; omega)]
          refine congrArg some (tab_congr fun y _ => ?_)
          by_cases hy : y = x
          · rw [if_pos hy, if_pos hy]; omega
          · rw [if_neg hy, if_neg hy]
      rw [fin, Option.bind_some, w64_succ (by omega)]
      refine ih (x + 1) _ (by omega) (by omega) (by omega) fun y => ?_
      by_cases hy : y = x
      · subst hy; rw [if_pos rfl, if_pos (by omega)]
      · rw [if_neg hy, hh]
        by_cases hyx : y < x
        · rw [if_pos hyx, if_pos (by omega)]
        · rw [if_neg hyx, if_neg (by omega)]
    · rw [if_neg (by simp; omega)]
      refine congrArg some (tab_congr fun y hy => ?_)
      rw [hh, if_pos (by omega)]
theorem pow41 {i : Nat} (h : i ≤ 5) : (0 : Int) ≤ 41 ^ i ∧ (41 : Int) ^ i ≤ 115856201 := by
  match i, h with
  | 0, _ => decide
  | 1, _ => decide
  | 2, _ => decide
  | 3, _ => decide
  | 4, _ => decide
  | 5, _ => decide
theorem ws_pow {s c i : Nat} {g : Nat → Int} (hc : c ≤ 40) (hg : ∀ y, 0 ≤ g y ∧ g y ≤ 41 ^ i) (y : Nat) : 0 ≤ ws s g (c + 1) y ∧ ws s g (c + 1) y ≤ 41 ^ (i + 1) := by
  have h := ws_bd (s := s) hg (c + 1) y
  have h0 := hg 0
  have h1 : ((c + 1 : Nat) : Int) * 41 ^ i ≤ 41 * 41 ^ i := Int.mul_le_mul_of_nonneg_right (by omega) (by omega)
  rw [Int.pow_succ, Int.mul_comm]
  omega
structure Good (a b : List Int) : Prop where
  len : b.length = a.length
  five : a.length ≤ 5
  sz : ∀ x ∈ a, 1 ≤ x ∧ x ≤ 30
  st : ∀ x ∈ b, 0 ≤ x ∧ x ≤ 40
theorem f74_p1_eq {F : Nat} (hF : 2100 ≤ F) {a b : List Int} (hab : Good a b) : ∀ (k i : Nat) (g : Nat → Int), i ≤ a.length → a.length < k + i → (∀ y, 0 ≤ g y ∧ g y ≤ 41 ^ i) →
    f74_p1 F a b k (tab 1001 g) i = some (tab 1001 (wf g (a.drop i) (b.drop i))) := by
  have h5 := hab.five
  have hl := hab.len
  intro k
  induction k with
  | zero => intro i g _ h; omega
  | succ k ih =>
    intro i g h1 h2 hg
    unfold f74_p1
    by_cases hi : i < a.length
    · have ha := hab.sz _ (List.getElem_mem hi)
      have hbi : i < b.length := by omega
      have hb := hab.st _ (List.getElem_mem hbi)
      obtain ⟨s, es⟩ : ∃ s : Nat, a[i] = s := ⟨a[i].toNat, by omega⟩
      obtain ⟨c, ec⟩ : ∃ c : Nat, b[i] = c := ⟨b[i].toNat, by omega⟩
      have hp := pow41 (i := i) (by omega)
      have hg' : ∀ y, 0 ≤ g y ∧ g y ≤ 115856201 := fun y => by have := hg y; omega
      rw [if_pos (by simp; omega), at_get hi, Option.bind_some, f47m_eq (by rw [tab_len]; omega), Option.bind_some, es]
      rw [f74_p5_eq (s := s) (c := c) (by omega) (by omega) (by rw [List.getElem?_eq_getElem hbi, ec]) (tab_len ..) hg' F s g (by omega) (by omega) (by omega) (fun y => by
        by_cases h : y < s
        · rw [if_pos h, ws_small h]
        · rw [if_neg h]), Option.bind_some, req_pos (by rw [tab_len, tab_len]; omega), tab_len, take_tab, w64_succ (by omega)]
      rw [ih (i + 1) _ (by omega) (by omega) (ws_pow (by omega) hg), drop_cons hi, drop_cons hbi, es, ec]
      rfl
    · rw [if_neg (by simp; omega), List.drop_eq_nil_of_le (by omega)]
      rfl
theorem f74_eq {F : Nat} (hF : 2100 ≤ F) {a b : List Int} (hab : Good a b) : f74 F a b = some (tab 1001 (W a b)) := by
  have e := f74_p1_eq hF hab F 0 g0 (by omega) (by have := hab.five; omega) (fun y => by unfold g0; split <;> decide)
  rw [List.drop_zero, List.drop_zero] at e
  unfold f74
  have e2 : (List.replicate 1001 (0 : Int)).set 0 1 = tab 1001 g0 := by
    rw [tab_zero, tab_set]; rfl
  rw [req_pos (by decide), req_pos (by rw [List.length_replicate]; decide), e2, req_pos (by rw [tab_len]; decide), show List.drop 0 (List.take 1001 (tab 1001 g0)) = tab 1001 g0 from take_tab 1001 g0, show f74_p1 F a b F (tab 1001 g0) 0 = _ from e, Option.bind_some]
  rfl

end
section
theorem Good.of {a b : List Int} (h : stk a b = 0) : Good a b := by
  obtain ⟨h1, h2, h3⟩ := stk_zero h
  exact ⟨h2, (ck_zero h1).2.1, ck_all h1, h3⟩
theorem f36_eq {F : Nat} (hF : 2100 ≤ F) {a b : List Int} {n : Int} (hb : b.length ≤ 40) : f36 F a b n = some (if od a b n = 0 then (W a b n.toNat, 0) else (0, od a b n)) := by
  unfold f36
  rw [f73_eq (by omega) hb, Option.bind_some]
  by_cases h : od a b n = 0
  · obtain ⟨h1, h2, h3⟩ := od_zero h
    have hab := Good.of h1
    obtain ⟨m, rfl⟩ : ∃ m : Nat, n = m := ⟨n.toNat, by omega⟩
    rw [if_pos h]
    simp only [if_pos h1, h, bne_self_eq_false, Bool.false_eq_true, if_false]
    rw [f74_eq hF hab, Option.bind_some, tab_at _ (by omega), Option.bind_some, Int.toNat_natCast]
  · rw [if_neg h]
    by_cases hs : stk a b = 0 <;> simp [hs, h]
def pos (g : Nat → Int) : Nat → Nat → List Int
  | _, 0 => []
  | i, m + 1 => if g i > 0 then (i : Int) :: pos g (i + 1) m else pos g (i + 1) m
theorem f78_p1_eq {F : Nat} {g : Nat → Int} : ∀ (k i : Nat) (acc : List Int), i ≤ 1001 → 1001 < k + i → acc.length ≤ i → f78_p1 F (tab 1001 g) k i acc = some (.c1 (acc ++ pos g i (1001 - i))) := by
  intro k
  induction k with
  | zero => intro i acc _ h; omega
  | succ k ih =>
    intro i acc h1 h2 h3
    unfold f78_p1
    rw [tab_len]
    by_cases hi : i < 1001
    · rw [if_pos (by simp; omega), tab_at _ hi, Option.bind_some, w64_succ (by omega), show 1001 - i = (1001 - (i + 1)) + 1 by omega, pos]
      by_cases h : g i > 0
      · rw [if_pos (by simpa using h), f79, req_pos (by simp; omega), Option.bind_some, if_pos h]
        show f78_p1 F (tab 1001 g) k ((i + 1 : Nat) : Int) _ = _
        rw [ih (i + 1) _ (by omega) (by omega) (by simp; omega)]
        simp
      · rw [if_neg (by simpa using h), if_neg h, ih (i + 1) _ (by omega) (by omega) (by omega)]
    · rw [if_neg (by simp; omega), show 1001 - i = 0 by omega]
      simp [pos]
def tots (a b : List Int) : List Int := if stk a b = 0 then pos (W a b) 0 1001 else []
theorem f38_eq {F : Nat} (hF : 2100 ≤ F) {a b : List Int} (hb : b.length ≤ 40) : f38 F a b = some (tots a b, stk a b) := by
  unfold f38 tots
  rw [f77_eq (by omega) hb, Option.bind_some]
  by_cases h : stk a b = 0
  · simp only [if_pos h, bne_self_eq_false, Bool.false_eq_true, if_false]
    have e := f78_p1_eq (F := F) (g := W a b) F 0 [] (by omega) (by omega) (by simp)
    unfold f78
    rw [f74_eq hF (Good.of h), Option.bind_some, show f78_p1 F (tab 1001 (W a b)) F 0 [] = _ from e, Option.bind_some, Option.bind_some, List.nil_append, take0, h]
  · simp only [if_neg h, bne_iff_ne, ne_eq, not_false_eq_true, if_true]
    rw [if_pos h]
def nxt (g : Nat → Int) (n : Int) : Nat → Nat → Option Int
  | _, 0 => none
  | i, m + 1 => if g i > 0 ∧ n ≤ i then some i else nxt g n (i + 1) m
theorem f78_1_p1_eq {F : Nat} {g : Nat → Int} {n : Int} : ∀ (k i : Nat), i ≤ 1001 → 1001 < k + i → f78_1_p1 F (tab 1001 g) n k i 12 0 = some (match nxt g n i (1001 - i) with | some v => .c0 0 v | none => .c1 12 0) := by
  intro k
  induction k with
  | zero => intro i _ h; omega
  | succ k ih =>
    intro i h1 h2
    unfold f78_1_p1
    rw [tab_len]
    by_cases hi : i < 1001
    · rw [if_pos (by simp; omega), tab_at _ hi, Option.bind_some, w64_succ (by omega), show 1001 - i = (1001 - (i + 1)) + 1 by omega, nxt]
      by_cases h : g i > 0
      · rw [if_pos (by simpa using h), f80, f80_p0]
        by_cases h3 : (i : Int) ≥ n
        · rw [if_pos (by simpa using h3), if_pos ⟨h, h3⟩]
          rfl
        · rw [if_neg (by simpa using h3), if_neg (fun e => h3 e.2)]
          exact ih (i + 1) (by omega) (by omega)
      · rw [if_neg (by simpa using h), if_neg (fun e => h e.1), ih (i + 1) (by omega) (by omega)]
    · rw [if_neg (by simp; omega), show 1001 - i = 0 by omega]
      rfl
def lea (a b : List Int) (n : Int) : Int × Int := if od a b n = 0 then (match nxt (W a b) n 0 1001 with | some v => (v, 0) | none => (0, 12)) else (0, od a b n)
theorem f40_eq {F : Nat} (hF : 2100 ≤ F) {a b : List Int} {n : Int} (hb : b.length ≤ 40) : f40 F a b n = some (lea a b n) := by
  unfold f40 lea
  rw [f73_eq (by omega) hb, Option.bind_some]
  by_cases h : od a b n = 0
  · have h1 := (od_zero h).1
    simp only [if_pos h1, h, bne_self_eq_false, Bool.false_eq_true, if_false, if_true]
    have e := f78_1_p1_eq (F := F) (g := W a b) (n := n) F 0 (by omega) (by omega)
    unfold f78_1
    rw [f74_eq hF (Good.of h1), Option.bind_some, show f78_1_p1 F (tab 1001 (W a b)) n F 0 12 0 = _ from e, Option.bind_some]
    cases nxt (W a b) n 0 (1001 - 0) <;> rfl
  · rw [if_neg h]
    by_cases hs : stk a b = 0 <;> simp [hs, h]
theorem Good.setZero {a b : List Int} (h : Good a b) (i : Nat) : Good a (b.set i 0) := ⟨by simpa using h.len, h.five, h.sz, fun x hx => by
  rcases List.mem_or_eq_of_mem_set hx with hx | rfl
  · exact h.st x hx
  · decide⟩
def spl (g : Nat → Int) (s n : Nat) : Nat → Nat → Int → Int → Int → Int × Int × Int
  | 0, _, p, q, e => (p, q, e)
  | m + 1, j, p, q, e => if j * s ≤ n then (if g (n - j * s) = 0 then spl g s n m (j + 1) p q e else if e = 0 then spl g s n m (j + 1) p j 0 else spl g s n m (j + 1) j j 0) else (p, q, e)
theorem f42_p4_eq {F n : Nat} (hn : n ≤ 1000) {a b : List Int} {g : Nat → Int} {i s c : Nat} (hs : 1 ≤ s ∧ s ≤ 30) (hc : c ≤ 40) (ha : a[i]? = some (s : Int)) :
    ∀ (k j : Nat) (p q e : Int), j ≤ c + 1 → c + 1 < k + j → f42_p4 F n i (tab 1001 g) c a b k p q e j = some (spl g s n (c + 1 - j) j p q e) := by
  intro k
  induction k with
  | zero => intro j p q e _ h; omega
  | succ k ih =>
    intro j p q e h1 h2
    unfold f42_p4
    rw [w64_succ (by omega)]
    by_cases hj : j ≤ c
    · have hcs := cs_cast (c := j) hs (by omega)
      rw [if_pos (by simp; omega), at_of ha, Option.bind_some, hcs.1, show c + 1 - j = (c + 1 - (j + 1)) + 1 by omega, spl]
      by_cases hx : j * s ≤ n
      · rw [show w64 ((n : Int) - ((j * s : Nat) : Int)) = ((n - j * s : Nat) : Int) by rw [w64_in (by omega)]; omega]
        rw [if_neg (by simp only [decide_eq_true_eq]; omega), if_pos hx, tab_at _ (by omega), Option.bind_some, w64_succ (by omega)]
        unfold f42_p10
        generalize g (n - j * s) = z at *
        by_cases h0 : z = 0
        · subst h0
          simp only [beq_self_eq_true, if_true]
          exact ih (j + 1) _ _ _ (by omega) (by omega)
        · have d1 : (z == 0) = false := by simpa using h0
          simp only [d1, if_neg h0, Bool.false_eq_true, if_false]
          by_cases he : e = 0
          · subst he
            simp only [bne_self_eq_false, Bool.false_eq_true, if_false, if_true, Option.bind_some]
            exact ih (j + 1) _ _ _ (by omega) (by omega)
          · have d2 : (e != 0) = true := by simpa using he
            simp only [d2, if_neg he, if_true, Option.bind_some]
            exact ih (j + 1) _ _ _ (by omega) (by omega)
      · rw [show w64 ((n : Int) - ((j * s : Nat) : Int)) = (n : Int) - ((j * s : Nat) : Int) by rw [w64_in (by omega)]]
        rw [if_pos (by simp only [decide_eq_true_eq]; omega), if_neg hx]
    · rw [if_neg (by simp; omega), show c + 1 - j = 0 by omega]
      rfl
def spn (a b : List Int) (n i : Int) : Int × Int × Int :=
  if od a b n = 0 then (if 0 ≤ i ∧ i ≤ (a.length : Int) - 1 then spl (W a (b.set i.toNat 0)) ((a[i.toNat]?.getD 0).toNat) n.toNat ((b[i.toNat]?.getD 0).toNat + 1) 0 0 0 12 else (0, 0, 2)) else (0, 0, od a b n)
theorem f42_eq {F : Nat} (hF : 2100 ≤ F) {a b : List Int} {n i : Int} (hb : b.length ≤ 40) (ha : a.length ≤ 40) : f42 F a b n i = some (spn a b n i) := by
  unfold f42 spn
  rw [f73_eq (by omega) hb, Option.bind_some]
  by_cases h : od a b n = 0
  · obtain ⟨h1, h2, h3⟩ := od_zero h
    have hab := Good.of h1
    obtain ⟨m, rfl⟩ : ∃ m : Nat, n = m := ⟨n.toNat, by omega⟩
    rw [if_pos h]
    simp only [if_pos h1, h, bne_self_eq_false, Bool.false_eq_true, if_false, f67_eq, Option.bind_some, decide_eq_true_eq]
    have ew : w64 ((a.length : Int) - 1) = (a.length : Int) - 1 := w64_in (by omega)
    rw [ew]
    by_cases hi : 0 ≤ i ∧ i ≤ (a.length : Int) - 1
    · obtain ⟨j, rfl⟩ : ∃ j : Nat, i = j := ⟨i.toNat, by omega⟩
      have hl := hab.len
      have hja : j < a.length := by omega
      have hjb : j < b.length := by omega
      rw [if_pos hi, if_pos hi, f47_1m_eq (by omega), Option.bind_some]
      simp only [Int.toNat_natCast, Nat.zero_add, List.drop_zero]
      rw [req_pos (by omega), req_pos hjb, req_pos (by simp)]
      have et : List.take b.length (b.set j 0) = b.set j 0 := List.take_of_length_le (by simp)
      have hg2 := hab.setZero j
      have hsa := hab.sz _ (List.getElem_mem hja)
      have hsb := hab.st _ (List.getElem_mem hjb)
      obtain ⟨s, es⟩ : ∃ s : Nat, a[j] = s := ⟨a[j].toNat, by omega⟩
      obtain ⟨c, ec⟩ : ∃ c : Nat, b[j] = c := ⟨b[j].toNat, by omega⟩
      rw [et, f74_eq hF hg2, Option.bind_some, at_get hjb, Option.bind_some, List.getElem?_eq_getElem hja, List.getElem?_eq_getElem hjb, Option.getD_some, Option.getD_some, es, ec]
      have e := f42_p4_eq (F := F) (n := m) (by omega) (a := a) (b := b) (g := W a (b.set j 0)) (i := j) (s := s) (c := c) (by omega) (by omega) (by rw [List.getElem?_eq_getElem hja, es]) F 0 0 0 12 (by omega) (by omega)
      rw [show f42_p4 F m j (tab 1001 (W a (b.set j 0))) c a b F 0 0 12 0 = _ from e, Option.bind_some]
      rfl
    · rw [if_neg hi, if_neg hi]
  · rw [if_neg h]
    by_cases hs : stk a b = 0 <;> simp [hs, h]
theorem f15_eq {F : Nat} (a b c : List Int) : ∃ z, f15 F a b c = some z ∧ (z = false → a.length ≤ 40 ∧ b.length ≤ 40 ∧ c.length ≤ 40) := by
  unfold f15
  by_cases h1 : (a.length : Int) > 40
  · rw [if_pos (by simpa using h1)]; exact ⟨_, rfl, fun h => by cases h⟩
  · rw [if_neg (by simpa using h1)]
    by_cases h2 : (b.length : Int) > 40
    · rw [if_pos (by simpa using h2)]; exact ⟨_, rfl, fun h => by cases h⟩
    · rw [if_neg (by simpa using h2)]
      refine ⟨_, rfl, fun h => ?_⟩
      have := of_decide_eq_false h
      omega
end
section
def mv (s : Nat) (g : Nat → Int) : Nat → Nat → Int
  | 0, x => g x
  | c + 1, x => if (c + 1) * s ≤ x ∧ g (x - (c + 1) * s) + ((c + 1 : Nat) : Int) < mv s g c x then g (x - (c + 1) * s) + ((c + 1 : Nat) : Int) else mv s g c x
def ma (s : Nat) (g : Nat → Int) : Nat → Nat → Nat
  | 0, _ => 0
  | c + 1, x => if (c + 1) * s ≤ x ∧ g (x - (c + 1) * s) + ((c + 1 : Nat) : Int) < mv s g c x then c + 1 else ma s g c x
structure Fst (s : Nat) (g : Nat → Int) (c x m : Nat) : Prop where
  le : m ≤ c
  fit : m * s ≤ x
  best : ∀ j, j ≤ c → j * s ≤ x → g (x - m * s) + m ≤ g (x - j * s) + j
  first : ∀ j, j < m → j * s ≤ x → g (x - m * s) + m < g (x - j * s) + j
theorem ma_fst {s : Nat} {g : Nat → Int} (x : Nat) : ∀ c, Fst s g c x (ma s g c x) ∧ mv s g c x = g (x - ma s g c x * s) + (ma s g c x : Nat)
  | 0 => by
    refine ⟨⟨by simp [ma], by simp [ma], fun j h _ => ?_, fun j h => by simp [ma] at h⟩, by simp [ma, mv]⟩
    have : j = 0 := by omega
    subst this; simp [ma]
  | c + 1 => by
    obtain ⟨h1, h2⟩ := ma_fst (s := s) (g := g) x c
    have d1 : mv s g (c + 1) x = if (c + 1) * s ≤ x ∧ g (x - (c + 1) * s) + ((c + 1 : Nat) : Int) < mv s g c x then g (x - (c + 1) * s) + ((c + 1 : Nat) : Int) else mv s g c x := rfl
    have d2 : ma s g (c + 1) x = if (c + 1) * s ≤ x ∧ g (x - (c + 1) * s) + ((c + 1 : Nat) : Int) < mv s g c x then c + 1 else ma s g c x := rfl
    rw [d1, d2]
    by_cases h : (c + 1) * s ≤ x ∧ g (x - (c + 1) * s) + ((c + 1 : Nat) : Int) < mv s g c x
    · rw [if_pos h, if_pos h]
      refine ⟨⟨Nat.le_refl _, h.1, fun j hj hx => ?_, fun j hj hx => ?_⟩, rfl⟩
      · by_cases e : j = c + 1
        · subst e; exact Int.le_refl _
        · have := h1.best j (by omega) hx
          omega
      · have := h1.best j (by omega) hx
        omega
    · rw [if_neg h, if_neg h]
      refine ⟨⟨Nat.le_succ_of_le h1.le, h1.fit, fun j hj hx => ?_, h1.first⟩, h2⟩
      by_cases e : j = c + 1
      · subst e
        have : ¬ g (x - (c + 1) * s) + ((c + 1 : Nat) : Int) < mv s g c x := fun hh => h ⟨hx, hh⟩
        omega
      · exact h1.best j (by omega) hx
theorem Fst.uniq {s : Nat} {g : Nat → Int} {c x m : Nat} (h : Fst s g c x m) : ma s g c x = m ∧ mv s g c x = g (x - m * s) + (m : Nat) := by
  obtain ⟨k, e⟩ := ma_fst (s := s) (g := g) x c
  have : ma s g c x = m := by
    rcases Nat.lt_trichotomy (ma s g c x) m with hlt | he | hlt
    · have := h.first _ hlt k.fit
      have := k.best m h.le h.fit
      omega
    · exact he
    · have := k.first _ hlt h.fit
      have := h.best _ k.le k.fit
      omega
  rw [this] at e
  exact ⟨this, e⟩
def cst (w : List Nat) : List Int := w.map fun (i : Nat) => (i : Int)
theorem cst_len (w : List Nat) : (cst w).length = w.length := by simp [cst]
theorem cst_app (u v : List Nat) : cst (u ++ v) = cst u ++ cst v := by simp [cst]
section
variable {F n : Nat} {a b : List Int} {g : Nat → Int} {s r most : Nat} {p : Int} {C : List (List Int)}
theorem f89_eq (hn : n ≤ 1000) (hg : ∀ y, 0 ≤ g y ∧ g y ≤ 1001) {i j : Nat} (hi : r + i * s ≤ n) (hi2 : i ≤ 1000) (hj : j ≤ 1000) : f89_1 F i (tab (n + 1) g) s r j = some (g (r + i * s) + j - i) := by
  unfold f89_1
  have e : (i : Int) * s = ((i * s : Nat) : Int) := (Int.natCast_mul ..).symm
  have := hg (r + i * s)
  rw [e, w64_in (n := ((i * s : Nat) : Int)) (by omega), show w64 ((r : Int) + ((i * s : Nat) : Int)) = ((r + i * s : Nat) : Int) by rw [w64_in (by omega)]; omega, tab_at _ (by omega), Option.bind_some, w64_in (n := g (r + i * s) + j) (by omega), w64_in (by omega)]
theorem pop_eq (hn : n ≤ 1000) (hg : ∀ y, 0 ≤ g y ∧ g y ≤ 1001) {x179 x180 : List Int} {j : Nat} (hj : r + j * s ≤ n) (hj2 : j ≤ 1000) : ∀ (k : Nat) (w : List Nat), w.length < k → w.length ≤ 1001 → (∀ i ∈ w, r + i * s ≤ n ∧ i ≤ 1000) →
    ∃ u v, w = u ++ v ∧ f65_p17_17 F n a p most s r b (tab (n + 1) g) C x179 x180 j k (cst w) = some (cst u) ∧ (∀ i ∈ v, g (r + j * s) - j ≤ g (r + i * s) - i) ∧ (∀ i, u.getLast? = some i → g (r + i * s) - i < g (r + j * s) - j) := by
  intro k
  induction k with
  | zero => intro w h; omega
  | succ k ih =>
    intro w h1 hw1 h2
    rcases List.eq_nil_or_concat w with rfl | ⟨w', x, rfl⟩
    · refine ⟨[], [], rfl, ?_, by simp, by simp⟩
      unfold f65_p17_17
      rw [if_neg (by simp [cst])]
    · rw [List.concat_eq_append] at h1 h2 hw1 ⊢
      have hx := h2 x (by simp)
      have hlen : (cst (w' ++ [x])).length = w'.length + 1 := by simp [cst_len]
      simp only [List.length_append, List.length_singleton] at h1 hw1
      have e1 : w64 (((w'.length + 1 : Nat) : Int) - 1) = ((w'.length : Nat) : Int) := by rw [w64_in (by omega)]; omega
      have e2 : (cst (w' ++ [x]))[0 + w'.length]? = some (x : Int) := by
        rw [cst_app, Nat.zero_add, List.getElem?_append_right (by rw [cst_len]; exact Nat.le_refl _), cst_len, Nat.sub_self]; rfl
      have e3 : List.drop 0 (List.take w'.length (cst (w' ++ [x]))) = cst w' := by
        rw [List.drop_zero, cst_app, List.take_append_of_le_length (by rw [cst_len]; exact Nat.le_refl _), List.take_of_length_le (by rw [cst_len]; exact Nat.le_refl _)]
      unfold f65_p17_17
      rw [hlen, if_pos (decide_eq_true (by omega)), e1, req_pos (by omega), Int.toNat_natCast, e2, Option.bind_some, f89_eq hn hg hx.1 hx.2 hj2, Option.bind_some, f89_eq hn hg hj hj2 hj2, Option.bind_some]
      by_cases hc : g (r + x * s) + j - x ≥ g (r + j * s) + j - j
      · rw [if_pos (by simpa using hc), req_pos (by omega), req_pos (by simp), e3]
        obtain ⟨u, v, rfl, r1, r2, r3⟩ := ih w' (by omega) (by omega) fun i hi => h2 i (by simp [hi])
        refine ⟨u, v ++ [x], by simp, r1, fun i hi => ?_, r3⟩
        rcases List.mem_append.1 hi with hi | hi
        · exact r2 i hi
        · rw [List.mem_singleton] at hi
          subst hi; omega
      · rw [if_neg (by simpa using hc)]
        refine ⟨w' ++ [x], [], by simp, rfl, by simp, fun i hi => ?_⟩
        simp only [List.getLast?_append, List.getLast?_singleton, Option.some_or] at hi
        cases hi
        omega
structure Win (g : Nat → Int) (s r most : Nat) (w : List Nat) (j : Nat) : Prop where
  pw : w.Pairwise fun i i' => i < i' ∧ g (r + i * s) - i < g (r + i' * s) - i'
  rng : ∀ i ∈ w, j ≤ i + most + 1 ∧ i < j
  cov : ∀ i, i < j → j ≤ i + most + 1 → ∃ i' ∈ w, i ≤ i' ∧ g (r + i' * s) - i' ≤ g (r + i * s) - i
theorem Win.push {w u v : List Nat} {j : Nat} (h : Win g s r most w j) (hw : w = u ++ v) (hv : ∀ i ∈ v, g (r + j * s) - j ≤ g (r + i * s) - i) (hu : ∀ i, u.getLast? = some i → g (r + i * s) - i < g (r + j * s) - j) :
    (u ++ [j]).Pairwise (fun i i' => i < i' ∧ g (r + i * s) - i < g (r + i' * s) - i') ∧ (∀ i ∈ u ++ [j], j ≤ i + most + 1 ∧ i ≤ j) ∧ (∀ i, i ≤ j → j ≤ i + most → ∃ i' ∈ u ++ [j], i ≤ i' ∧ g (r + i' * s) - i' ≤ g (r + i * s) - i) := by
  subst hw
  have pu := (List.pairwise_append.1 h.pw).1
  have hall : ∀ i ∈ u, g (r + i * s) - i < g (r + j * s) - j := by
    intro i hi
    rcases List.eq_nil_or_concat u with rfl | ⟨u', x, rfl⟩
    · cases hi
    · rw [List.concat_eq_append] at hi pu hu
      have hx := hu x (by simp)
      rcases List.mem_append.1 hi with hi | hi
      · have := ((List.pairwise_append.1 pu).2.2 i hi x (by simp)).2
        omega
      · rw [List.mem_singleton] at hi
        subst hi; exact hx
  refine ⟨?_, fun i hi => ?_, fun i hi hm => ?_⟩
  · rw [List.pairwise_append]
    refine ⟨pu, by simp, fun i hi i' hi' => ?_⟩
    rw [List.mem_singleton] at hi'
    subst hi'
    exact ⟨(h.rng i (by simp [hi])).2, hall i hi⟩
  · rcases List.mem_append.1 hi with hi | hi
    · have := h.rng i (by simp [hi]); omega
    · rw [List.mem_singleton] at hi; omega
  · by_cases e : i = j
    · subst e; exact ⟨i, by simp, Nat.le_refl _, Int.le_refl _⟩
    · obtain ⟨i', h1, h2, h3⟩ := h.cov i (by omega) (by omega)
      rcases List.mem_append.1 h1 with h1 | h1
      · exact ⟨i', by simp [h1], h2, h3⟩
      · have := hv i' h1
        exact ⟨j, by simp, by omega, by omega⟩
def val (s most : Nat) (g : Nat → Int) (x : Nat) : Int := if mv s g most x < 1001 then mv s g most x else 1001
theorem p13_eq (hF : 2100 ≤ F) (hn : n ≤ 1000) (hg : ∀ y, 0 ≤ g y ∧ g y ≤ 1001) (hs : 1 ≤ s) (hs2 : s ≤ 30) (hr : r < s) (hrn : r ≤ n) (hmost : most ≤ 1000) : ∀ (k j : Nat) (N B : Nat → Int) (w : List Nat), n + 1 < k + j → j ≤ n + 1 → w.length ≤ j → Win g s r most w j →
    ∃ N' B', f65_p13_5 F n a p most s r b (tab (n + 1) g) C k (tab (n + 1) N) (tab (n + 1) B) j (cst w) = some (tab (n + 1) N', tab (n + 1) B') ∧
      (∀ y, y % s = r → r + j * s ≤ y → y ≤ n → N' y = val s most g y ∧ B' y = (ma s g most y : Nat)) ∧ (∀ y, ¬ (y % s = r ∧ r + j * s ≤ y) → N' y = N y ∧ B' y = B y) := by
  intro k
  induction k with
  | zero =>
    intro j N B w h1 h2 h3 hw
    omega
  | succ k ih =>
    intro j N B w h1 h2 h3 hw
    have hjs : j ≤ j * s := Nat.le_mul_of_pos_right j hs
    have e : (j : Int) * s = ((j * s : Nat) : Int) := (Int.natCast_mul ..).symm
    unfold f65_p13_5
    by_cases hx : r + j * s ≤ n
    · have ex : w64 ((r : Int) + w64 ((j : Int) * s)) = ((r + j * s : Nat) : Int) := by
        rw [e, w64_in (n := ((j * s : Nat) : Int)) (by omega), w64_in (by omega)]; omega
      have hwr : ∀ i ∈ w, r + i * s ≤ n ∧ i ≤ 1000 := fun i hi => by
        have := (hw.rng i hi).2
        have : i * s ≤ j * s := Nat.mul_le_mul_right s (by omega)
        omega
      obtain ⟨u, v, e1, e2, e3, e4⟩ := pop_eq (F := F) (a := a) (b := b) (p := p) (C := C) (most := most) (x179 := tab (n + 1) N) (x180 := tab (n + 1) B) hn hg hx (by omega) F w (by omega) (by omega) hwr
      obtain ⟨q1, q2, q3⟩ := hw.push e1 e3 e4
      have hul : u.length ≤ w.length := by rw [e1]; simp
      -- the window behind this number
      obtain ⟨w3, z1, z2, z3⟩ : ∃ w3 : List Nat, f65_p20_17 F n a p most (cst u) j s r (((u ++ [j]).headD 0 : Nat) : Int) b (tab (n + 1) g) C (tab (n + 1) N) (tab (n + 1) B) = some (cst w3) ∧ Win g s r most w3 (j + 1) ∧ w3.length ≤ j + 1 := by
        unfold f65_p20_17
        have hcu : cst u ++ [(j : Int)] = cst (u ++ [j]) := by rw [cst_app]; rfl
        rw [hcu, cst_len]
        generalize hW : u ++ [j] = W at *
        have hWl : W.length = u.length + 1 := by rw [← hW]; simp
        cases W with
        | nil => simp at hWl
        | cons i0 W' =>
          rw [List.headD_cons]
          rw [List.pairwise_cons] at q1
          have hi0 := q2 i0 (by simp)
          by_cases hd : i0 + most < j
          · have hne : W' ≠ [] := by
              intro hnil
              subst hnil
              have : j = i0 := by
                have hm : j ∈ u ++ [j] := by simp
                rw [hW] at hm
                simpa using hm
              omega
            have hpos : 0 < W'.length := List.length_pos_iff.2 hne
            simp only [List.length_cons]
            rw [if_pos (by rw [w64_in (by omega)]; simp; omega), req_pos (by omega), req_pos (by omega)]
            refine ⟨W', ?_, ⟨q1.2, fun i hi => ?_, fun i hi hm => ?_⟩, ?_⟩
            · rw [show W'.length + 1 = (cst (i0 :: W')).length by rw [cst_len]; rfl, List.take_length]; rfl
            · have := q2 i (by simp [hi])
              have := (q1.1 i hi).1
              omega
            · obtain ⟨i', g1, g2, g3⟩ := q3 i (by omega) (by omega)
              rcases List.mem_cons.1 g1 with rfl | g1
              · omega
              · exact ⟨i', g1, g2, g3⟩
            · simp only [List.length_cons] at hWl; omega
          · rw [if_neg (by rw [w64_in (by omega)]; simp; omega)]
            refine ⟨i0 :: W', rfl, ⟨List.pairwise_cons.2 q1, fun i hi => ?_, fun i hi hm => q3 i (by omega) (by omega)⟩, ?_⟩
            · have := q2 i hi
              rcases List.mem_cons.1 hi with rfl | hi
              · omega
              · have := (q1.1 i hi).1
                omega
            · omega
      have hhead : (cst u ++ [(j : Int)])[0]? = some (((u ++ [j]).headD 0 : Nat) : Int) := by
        cases u <;> rfl
      -- its first number is the best one
      obtain ⟨i0, W', hw3⟩ : ∃ i0 W', w3 = i0 :: W' := by
        cases w3 with
        | nil =>
          obtain ⟨i', g1, _⟩ := z2.cov j (by omega) (by omega)
          cases g1
        | cons i0 W' => exact ⟨i0, W', rfl⟩
      subst hw3
      have hr0 := z2.rng i0 (by simp)
      have hpw := List.pairwise_cons.1 z2.pw
      have key : ∀ i, i ≤ j → j ≤ i + most → g (r + i0 * s) - i0 ≤ g (r + i * s) - i ∧ (i0 < i → g (r + i0 * s) - i0 < g (r + i * s) - i) := by
        intro i hi hm
        obtain ⟨i', g1, g2, g3⟩ := z2.cov i (by omega) (by omega)
        rcases List.mem_cons.1 g1 with rfl | g1
        · exact ⟨g3, fun h => by omega⟩
        · have := (hpw.1 i' g1).2
          exact ⟨by omega, fun _ => by omega⟩
      have hmul : ∀ i, i ≤ j → r + j * s - (j - i) * s = r + i * s := fun i hi => by
        have h1 : (j - i) * s + i * s = j * s := by rw [← Nat.add_mul, Nat.sub_add_cancel hi]
        omega
      have hfst : Fst s g most (r + j * s) (j - i0) := by
        have hle : ∀ c, c * s ≤ r + j * s → c ≤ j := fun c hc => by
          rcases Nat.lt_or_ge j c with h | h
          · have : (j + 1) * s ≤ c * s := Nat.mul_le_mul_right s h
            rw [Nat.add_mul, Nat.one_mul] at this
            omega
          · exact h
        have hsub : ∀ c, c ≤ j → g (r + j * s - c * s) = g (r + (j - c) * s) := fun c hc => by
          have := hmul (j - c) (by omega)
          rw [show j - (j - c) = c by omega] at this
          rw [this]
        refine ⟨by omega, ?_, fun c hc hcs => ?_, fun c hc hcs => ?_⟩
        · have : (j - i0) * s ≤ j * s := Nat.mul_le_mul_right s (by omega)
          omega
        · have hcj := hle c hcs
          have := (key (j - c) (by omega) (by omega)).1
          rw [hmul i0 (by omega), hsub c hcj]
          omega
        · have hcj := hle c hcs
          have := (key (j - c) (by omega) (by omega)).2 (by omega)
          rw [hmul i0 (by omega), hsub c hcj]
          omega
      obtain ⟨u1, u2⟩ := hfst.uniq
      rw [hmul i0 (by omega)] at u2
      have hgi := hg (r + i0 * s)
      have hi0n : r + i0 * s ≤ n := by
        have : i0 * s ≤ j * s := Nat.mul_le_mul_right s (by omega)
        omega
      rw [ex, if_pos (by simp; omega), e2, Option.bind_some, req_pos (by rw [cst_len, List.length_singleton]; omega), req_pos (by rw [List.length_append, cst_len, List.length_singleton]; omega), hhead, Option.bind_some, z1, Option.bind_some, req_pos (by rw [cst_len]; simp), show (cst (i0 :: W'))[0]? = some (i0 : Int) from rfl, Option.bind_some, f89_eq hn hg hi0n (by omega) (by omega), Option.bind_some,
        w64_succ (n := n) (by omega), Int.toNat_natCast, req_pos (by omega), Int.toNat_natCast, Nat.zero_add, req_pos (by rw [tab_len]; omega), req_pos (by rw [tab_len]; omega), tab_set, tab_set, w64_succ (by omega)]
      obtain ⟨N', B', r1, r2, r3⟩ := ih (j + 1) _ _ (i0 :: W') (by omega) (by omega) z3 z2
      refine ⟨N', B', r1, fun y y1 y2 y3 => ?_, fun y hy => ?_⟩
      · by_cases hy : y = r + j * s
        · have := r3 y (fun hh => by rw [Nat.add_mul, Nat.one_mul] at hh; omega)
          rw [this.1, this.2, if_pos hy, if_pos hy, hy]
          refine ⟨?_, ?_⟩
          · unfold val
            rw [u2]
            have e5 : g (r + i0 * s) + ((j - i0 : Nat) : Int) = g (r + i0 * s) + j - i0 := by omega
            rw [e5]
          · rw [u1, w64_in (by omega)]; omega
        · refine r2 y y1 ?_ y3
          have hd := Nat.div_add_mod y s
          rw [y1] at hd
          rw [Nat.add_mul, Nat.one_mul]
          have h5 : j ≤ y / s := by
            rcases Nat.lt_or_ge (y / s) j with h | h
            · have : (y / s + 1) * s ≤ j * s := Nat.mul_le_mul_right s h
              rw [Nat.add_mul, Nat.one_mul, Nat.mul_comm] at this
              omega
            · exact h
          have h6 : y / s ≠ j := fun hh => by
            rw [hh, Nat.mul_comm] at hd; omega
          have h7 : (j + 1) * s ≤ (y / s) * s := Nat.mul_le_mul_right s (by omega)
          rw [Nat.add_mul, Nat.one_mul, Nat.mul_comm (y / s)] at h7
          omega
      · have := r3 y (fun hh => by rw [Nat.add_mul, Nat.one_mul] at hh; exact hy ⟨hh.1, by omega⟩)
        rw [this.1, this.2]
        have hne : y ≠ r + j * s := fun hh => by
          refine hy ⟨?_, by omega⟩
          rw [hh, Nat.add_mul_mod_self_right, Nat.mod_eq_of_lt hr]
        rw [if_neg hne, if_neg hne]
        exact ⟨rfl, rfl⟩
    · have ex : ¬ (w64 ((r : Int) + w64 ((j : Int) * s)) ≤ (n : Int)) := by
        by_cases hsb : s ≤ 100000
        · have : j * s ≤ 1001 * 100000 := Nat.mul_le_mul (by omega) hsb
          rw [e, w64_in (n := ((j * s : Nat) : Int)) (by omega), w64_in (by omega)]; omega
        · exact absurd (show s ≤ 100000 by omega) hsb
      rw [if_neg (by simpa using ex)]
      exact ⟨N, B, rfl, fun y y1 y2 y3 => by omega, fun y _ => ⟨rfl, rfl⟩⟩
end
end
section
def fw : List Int → List Int → Nat → Int
  | s :: a, c :: b => val s.toNat c.toNat (fw a b)
  | _, _ => fun x => if x = 0 then 0 else 1001
def fillL : List Int → List Int → Nat → List Int
  | s :: a, c :: b, m => (ma s.toNat (fw a b) c.toNat m : Nat) :: fillL a b (m - ma s.toNat (fw a b) c.toNat m * s.toNat)
  | _, _, _ => []
def byl (n : Nat) : List Int → List Int → List (List Int)
  | s :: a, c :: b => tab (n + 1) (fun y => (ma s.toNat (fw a b) c.toNat y : Nat)) :: byl n a b
  | _, _ => []
theorem mv_nonneg {s : Nat} {g : Nat → Int} (h : ∀ y, 0 ≤ g y) (c x : Nat) : 0 ≤ mv s g c x := by
  obtain ⟨_, e⟩ := ma_fst (s := s) (g := g) x c
  have := h (x - ma s g c x * s)
  omega
theorem fw_bd : ∀ (a b : List Int) (y : Nat), 0 ≤ fw a b y ∧ fw a b y ≤ 1001
  | [], b, y => by
    have e : fw [] b = fun x => if x = 0 then 0 else 1001 := by cases b <;> rfl
    rw [e]; dsimp only; split <;> decide
  | _ :: _, [], y => by
    show 0 ≤ (if y = 0 then (0 : Int) else 1001) ∧ (if y = 0 then (0 : Int) else 1001) ≤ 1001
    split <;> decide
  | s :: a, c :: b, y => by
    have := mv_nonneg (s := s.toNat) (fun y => (fw_bd a b y).1) c.toNat y
    show 0 ≤ val _ _ _ y ∧ val _ _ _ y ≤ 1001
    unfold val
    split <;> omega
structure GoodM (a b : List Int) : Prop where
  len : b.length = a.length
  five : a.length ≤ 5
  sz : ∀ x ∈ a, 1 ≤ x ∧ x ≤ 30
  st : ∀ x ∈ b, 0 ≤ x ∧ x ≤ 1000
theorem Good.m {a b : List Int} (h : Good a b) : GoodM a b := ⟨h.len, h.five, h.sz, fun x hx => by have := h.st x hx; omega⟩
theorem p9_eq {F n : Nat} {a b : List Int} {g : Nat → Int} {s most : Nat} {p : Int} {C : List (List Int)} (hF : 2100 ≤ F) (hn : n ≤ 1000) (hg : ∀ y, 0 ≤ g y ∧ g y ≤ 1001) (hs : 1 ≤ s) (hs2 : s ≤ 30) (hmost : most ≤ 1000) :
    ∀ (k r : Nat) (N B : Nat → Int), r ≤ s → r ≤ n + 1 → 31 < k + r → (∀ y, y ≤ n → y % s < r → N y = val s most g y ∧ B y = (ma s g most y : Nat)) →
    f65_p9_2 F n a p most s b (tab (n + 1) g) C k r (tab (n + 1) N) (tab (n + 1) B) = some (tab (n + 1) (val s most g), tab (n + 1) (fun y => (ma s g most y : Nat))) := by
  intro k
  induction k with
  | zero => intro r N B h1 _ h; omega
  | succ k ih =>
    intro r N B h1 h2 h3 h4
    have en : w64 ((n : Int) + 1) = ((n + 1 : Nat) : Int) := w64_succ (by omega)
    unfold f65_p9_2
    rw [en]
    by_cases hr : r < s ∧ r < n + 1
    · obtain ⟨N', B', r1, r2, r3⟩ := p13_eq (F := F) (a := a) (b := b) (p := p) (C := C) (r := r) hF hn hg hs hs2 hr.1 (by omega) hmost F 0 N B [] (by omega) (by omega) (by simp) ⟨by simp, by simp, fun i hi => by omega⟩
      rw [if_pos (decide_eq_true (by split <;> omega)), show f65_p13_5 F n a p most s r b (tab (n + 1) g) C F (tab (n + 1) N) (tab (n + 1) B) 0 [] = _ from r1, Option.bind_some, w64_succ (by omega)]
      refine ih (r + 1) N' B' (by omega) (by omega) (by omega) fun y hy hyr => ?_
      by_cases he : y % s = r
      · refine r2 y he ?_ hy
        have := Nat.mod_le y s
        omega
      · have h5 := r3 y fun hh => he hh.1
        rw [h5.1, h5.2]
        exact h4 y hy (by omega)
    · rw [if_neg (by rw [decide_eq_true_eq]; split <;> omega)]
      have hall : ∀ y, y < n + 1 → N y = val s most g y ∧ B y = (ma s g most y : Nat) := fun y hy => by
        refine h4 y (by omega) ?_
        have h5 := Nat.mod_lt y hs
        have h6 := Nat.mod_le y s
        omega
      rw [tab_congr fun y hy => (hall y hy).1, tab_congr fun y hy => (hall y hy).2]
theorem p5_eq {F n : Nat} {a b : List Int} (hF : 2100 ≤ F) (hn : n ≤ 1000) (hab : GoodM a b) : ∀ (k i : Nat), i ≤ a.length → i < k →
    f65_p5 F n a b k ((i : Int) - 1) (tab (n + 1) (fw (a.drop i) (b.drop i))) (List.replicate i [] ++ byl n (a.drop i) (b.drop i)) = some (tab (n + 1) (fw a b), byl n a b) := by
  have hl := hab.len
  have h5 := hab.five
  intro k
  induction k with
  | zero => intro i _ h; omega
  | succ k ih =>
    intro i h1 h2
    unfold f65_p5
    match i, h1, h2 with
    | 0, _, _ =>
      rw [if_neg (by decide)]
      rfl
    | i + 1, h1, h2 =>
      have hia : i < a.length := by omega
      have hib : i < b.length := by omega
      have hsa := hab.sz _ (List.getElem_mem hia)
      have hsb := hab.st _ (List.getElem_mem hib)
      obtain ⟨s, es⟩ : ∃ s : Nat, a[i] = s := ⟨a[i].toNat, by omega⟩
      obtain ⟨c, ec⟩ : ∃ c : Nat, b[i] = c := ⟨b[i].toNat, by omega⟩
      have ei : (((i + 1 : Nat) : Int) - 1) = (i : Int) := by omega
      have en : w64 ((n : Int) + 1) = ((n + 1 : Nat) : Int) := w64_succ (by omega)
      rw [ei, if_pos (decide_eq_true (by omega)), at_get hia, Option.bind_some, at_get hib, Option.bind_some, en, req_pos (by omega), es, ec, Int.toNat_natCast, tab_zero]
      have e := p9_eq (F := F) (n := n) (a := a) (b := b) (p := (i : Int)) (C := List.replicate (i + 1) [] ++ byl n (a.drop (i + 1)) (b.drop (i + 1))) (s := s) (most := c) hF hn (fw_bd (a.drop (i + 1)) (b.drop (i + 1))) (by omega) (by omega) (by omega) F 0 (fun _ => 0) (fun _ => 0) (by omega) (by omega) (by omega) (fun y _ h => by omega)
      have hbl : (byl n (a.drop (i + 1)) (b.drop (i + 1))).length + (i + 1) ≥ i + 1 := by omega
      rw [show f65_p9_2 F n a i c s b (tab (n + 1) (fw (a.drop (i + 1)) (b.drop (i + 1)))) (List.replicate (i + 1) [] ++ byl n (a.drop (i + 1)) (b.drop (i + 1))) F 0 (tab (n + 1) fun _ => 0) (tab (n + 1) fun _ => 0) = _ from e, Option.bind_some]
      dsimp only
      rw [req_pos (by rw [tab_len]; omega), req_pos (by rw [tab_len]; omega), Int.toNat_natCast, req_pos (by omega), Int.toNat_natCast, req_pos (by simp; omega), take_tab, take_tab, show w64 ((i : Int) - 1) = (i : Int) - 1 from w64_in (by omega)]
      have e2 : (List.replicate (i + 1) ([] : List Int) ++ byl n (a.drop (i + 1)) (b.drop (i + 1))).set (0 + i) (tab (n + 1) fun y => (ma s (fw (a.drop (i + 1)) (b.drop (i + 1))) c y : Nat)) = List.replicate i [] ++ byl n (a.drop i) (b.drop i) := by
        rw [drop_cons hia, drop_cons hib, es, ec, byl, Nat.zero_add, List.replicate_succ', List.append_assoc, List.set_append_right _ _ (by simp), List.length_replicate, Nat.sub_self]
        rfl
      have e3 : fw (a.drop i) (b.drop i) = val s c (fw (a.drop (i + 1)) (b.drop (i + 1))) := by
        rw [drop_cons hia, drop_cons hib, es, ec]; rfl
      rw [e2, ← e3]
      exact ih i (by omega) (by omega)
theorem byl_get {n : Nat} : ∀ (a b : List Int) (i : Nat) (ha : i < a.length) (hb : i < b.length), (byl n a b)[i]? = some (tab (n + 1) (fun y => (ma a[i].toNat (fw (a.drop (i + 1)) (b.drop (i + 1))) b[i].toNat y : Nat)))
  | [], b, i, h, _ => by simp at h
  | _ :: _, [], i, _, h => by simp at h
  | s :: a, c :: b, 0, _, _ => rfl
  | s :: a, c :: b, i + 1, ha, hb => by
    show (byl n a b)[i]? = _
    rw [byl_get a b i (by simpa using ha) (by simpa using hb)]
    rfl
theorem p23_eq {F n : Nat} {a b : List Int} (hn : n ≤ 1000) (hab : GoodM a b) : ∀ (k i m : Nat) (acc : List Int), i ≤ a.length → a.length < k + i → m ≤ n → acc.length ≤ i →
    f65_p23 F a b (byl n a b) k m i acc = some (acc ++ fillL (a.drop i) (b.drop i) m) := by
  have hl := hab.len
  have h5 := hab.five
  intro k
  induction k with
  | zero => intro i m acc _ h; omega
  | succ k ih =>
    intro i m acc h1 h2 h3 h4
    unfold f65_p23
    rw [Int.toNat_natCast]
    by_cases hi : i < a.length
    · have hib : i < b.length := by omega
      have hsa := hab.sz _ (List.getElem_mem hi)
      obtain ⟨s, es⟩ : ∃ s : Nat, a[i] = s := ⟨a[i].toNat, by omega⟩
      obtain ⟨c, ec⟩ : ∃ c : Nat, b[i] = c := ⟨b[i].toNat, by have := hab.st _ (List.getElem_mem hib); omega⟩
      have hfit := (ma_fst (s := s) (g := fw (a.drop (i + 1)) (b.drop (i + 1))) m c).1.fit
      have e := byl_get (n := n) a b i hi hib
      rw [es, ec, Int.toNat_natCast, Int.toNat_natCast] at e
      rw [if_pos (by simp; omega), req_pos (by omega), Int.toNat_natCast, Nat.zero_add, e, Option.bind_some, tab_at _ (by omega), Option.bind_some, req_pos (by simp; omega), at_get hi, Option.bind_some, es, w64_succ (by omega), drop_cons hi, drop_cons hib, es, ec, fillL, Int.toNat_natCast, Int.toNat_natCast]
      generalize ma s (fw (a.drop (i + 1)) (b.drop (i + 1))) c m = q at *
      have eq : (q : Int) * s = ((q * s : Nat) : Int) := (Int.natCast_mul ..).symm
      rw [eq, w64_in (n := ((q * s : Nat) : Int)) (by omega), show w64 ((m : Int) - ((q * s : Nat) : Int)) = ((m - q * s : Nat) : Int) by rw [w64_in (by omega)]; omega, ih (i + 1) (m - q * s) _ (by omega) (by omega) (by omega) (by simp; omega)]
      simp
    · rw [if_neg (by simp; omega), List.drop_eq_nil_of_le (by omega)]
      simp [fillL]
theorem p1_eq {F n : Nat} {a b : List Int} (hn : n ≤ 1000) : ∀ (k x : Nat) (h : Nat → Int), x ≤ n + 1 → n + 1 < k + x → (∀ y, y < x → h y = 1001) → f65_p1 F n a b k x (tab (n + 1) h) = some (tab (n + 1) fun _ => 1001) := by
  intro k
  induction k with
  | zero => intro x h _ h1; omega
  | succ k ih =>
    intro x h h1 h2 h3
    have en : w64 ((n : Int) + 1) = ((n + 1 : Nat) : Int) := w64_succ (by omega)
    unfold f65_p1
    rw [en, Int.toNat_natCast]
    by_cases hx : x < n + 1
    · rw [if_pos (by simp; omega), req_pos (by omega), Int.toNat_natCast, Nat.zero_add, req_pos (by rw [tab_len]; omega), tab_set, w64_succ (by omega)]
      refine ih (x + 1) _ (by omega) (by omega) fun y hy => ?_
      by_cases he : y = x
      · rw [if_pos he]
      · rw [if_neg he]; exact h3 y (by omega)
    · rw [if_neg (by simp; omega)]
      exact congrArg some (tab_congr fun y hy => h3 y (by omega))
def fillR (a b : List Int) (n : Nat) : List Int × Int := if fw a b n = 1001 then ([], 12) else (fillL a b n, 0)
theorem f65_eq {F n : Nat} (hF : 2100 ≤ F) (hn : n ≤ 1000) {a b : List Int} (hab : GoodM a b) : f65 F a b n = some (fillR a b n) := by
  have hl := hab.len
  have h5 := hab.five
  have en : w64 ((n : Int) + 1) = ((n + 1 : Nat) : Int) := w64_succ (by omega)
  have e1 := p1_eq (F := F) (a := a) (b := b) hn F 0 (fun _ => 0) (by omega) (by omega) (fun y h => by omega)
  have e2 := p5_eq hF hn hab F a.length (Nat.le_refl _) (by omega)
  have ed1 : a.drop a.length = [] := List.drop_eq_nil_of_le (Nat.le_refl _)
  have ed2 : b.drop a.length = [] := List.drop_eq_nil_of_le (by omega)
  rw [ed1, ed2] at e2
  have e3 : (tab (n + 1) fun _ => 1001).set 0 0 = tab (n + 1) (fw [] []) := by
    rw [tab_set]; rfl
  have e4 : List.replicate a.length ([] : List Int) ++ byl n [] [] = List.replicate a.length [] := by
    show _ ++ [] = _
    rw [List.append_nil]
  rw [e4] at e2
  have e5 := p23_eq (F := F) hn hab F 0 n [] (by omega) (by omega) (Nat.le_refl _) (by simp)
  rw [List.drop_zero, List.drop_zero, List.nil_append] at e5
  unfold f65
  rw [en, req_pos (by omega), Int.toNat_natCast, tab_zero, show f65_p1 F n a b F 0 (tab (n + 1) fun _ => 0) = _ from e1, Option.bind_some, req_pos (by omega), req_pos (by rw [tab_len]; omega), req_pos (by omega), e3, req_pos (by rw [tab_len]; omega), take_tab, Int.toNat_natCast, show w64 ((a.length : Int) - 1) = (a.length : Int) - 1 from w64_in (by omega), e2, Option.bind_some]
  dsimp only
  rw [tab_at _ (by omega), Option.bind_some]
  unfold fillR
  by_cases h : fw a b n = 1001
  · rw [if_pos (by simpa using h), if_pos h]
  · rw [if_neg (by simpa using h), if_neg h, show f65_p23 F a b (byl n a b) F n 0 [] = _ from e5, Option.bind_some, take0]
theorem f51_eq {F : Nat} (hF : 2100 ≤ F) {a b : List Int} {n : Int} (hb : b.length ≤ 40) : f51 F a b n = some (if od a b n = 0 then fillR a b n.toNat else ([], od a b n)) := by
  unfold f51
  rw [f73_eq (by omega) hb, Option.bind_some]
  by_cases h : od a b n = 0
  · obtain ⟨h1, h2, h3⟩ := od_zero h
    obtain ⟨m, rfl⟩ : ∃ m : Nat, n = m := ⟨n.toNat, by omega⟩
    rw [if_pos h]
    simp only [if_pos h1, h, bne_self_eq_false, Bool.false_eq_true, if_false]
    rw [f65_eq hF (by omega) (Good.of h1).m, Int.toNat_natCast]
    rfl
  · rw [if_neg h]
    by_cases hs : stk a b = 0 <;> simp [hs, h]
end
section
set_option maxRecDepth 100000
theorem k1 : f28 2100 [3, 5] = some ([1, 2, 4, 7], 0) := by decide +kernel
theorem k2 : f30 2100 [6, 10, 15] = some (29, 0) := by decide +kernel
theorem k3 : f24 2100 [6, 10, 15] 0 = some ([0, 25, 20, 15, 10, 35], 0) := by decide +kernel
theorem k4 : f17 2100 [6, 10, 15] 31 = some (true, 0) := by decide +kernel
theorem k5 : f21 2100 [6, 10, 15] 29 = some (5, 35, 0) := by decide +kernel
theorem k6 : f19 2100 [1, 4, 6] 8 = some ([0, 2, 0], 0) := by decide +kernel
theorem k7 : f34 2100 [3, 5, 6, 8] = some ([0, 1], 0) := by decide +kernel
theorem k8 : f32 2100 [3, 4, 5] = some (false, 0) := by decide +kernel
theorem k9 : f51 2100 [2, 5] [3, 2] 11 = some ([3, 1], 0) := by decide +kernel
theorem k10 : f36 2100 [2, 5] [5, 2] 10 = some (2, 0) := by
  rw [f36_eq (by omega) (by decide)]
  decide +kernel
theorem k11 : f42 2100 [2, 5] [5, 2] 10 0 = some (0, 5, 0) := by
  rw [f42_eq (by omega) (by decide) (by decide)]
  decide +kernel
theorem k12' : tots [2, 5] [1, 1] = [0, 2, 5, 7] := by decide +kernel
theorem k12 : f38 2100 [2, 5] [1, 1] = some ([0, 2, 5, 7], 0) := by
  rw [f38_eq (by omega) (by decide), k12', show stk [2, 5] [1, 1] = 0 from by decide +kernel]
theorem k13 : f40 2100 [2, 5] [1, 1] 3 = some (5, 0) := by
  rw [f40_eq (by omega) (by decide)]
  decide +kernel
theorem k14 : f51 2100 [2, 5] [3, 2] 13 = some ([], 12) := by decide +kernel
theorem f16_of {F : Nat} (hF : 2100 ≤ F) (hF2 : F ≤ 5000) (k1 : f28 F [3, 5] = some ([1, 2, 4, 7], 0)) (k2 : f30 F [6, 10, 15] = some (29, 0)) (k3 : f24 F [6, 10, 15] 0 = some ([0, 25, 20, 15, 10, 35], 0)) (k4 : f17 F [6, 10, 15] 31 = some (true, 0))
    (k5 : f21 F [6, 10, 15] 29 = some (5, 35, 0)) (k6 : f19 F [1, 4, 6] 8 = some ([0, 2, 0], 0)) (k7 : f34 F [3, 5, 6, 8] = some ([0, 1], 0)) (k8 : f32 F [3, 4, 5] = some (false, 0)) (k9 : f51 F [2, 5] [3, 2] 11 = some ([3, 1], 0))
    (k10 : f36 F [2, 5] [5, 2] 10 = some (2, 0)) (k11 : f42 F [2, 5] [5, 2] 10 0 = some (0, 5, 0)) (k12 : f38 F [2, 5] [1, 1] = some ([0, 2, 5, 7], 0)) (k13 : f40 F [2, 5] [1, 1] 3 = some (5, 0)) (k14 : f51 F [2, 5] [3, 2] 13 = some ([], 12)) : f16 F = some true := by
  have e : ∀ l : List Int, l.length < 2100 → f23 F l l = some true := fun l h => by rw [f23_eq (by omega) hF2, decide_eq_true rfl]
  unfold f16
  simp only [f52, Option.bind_some, k1, k2, k3, k4, k5, k6, k7, k8, k9, k10, k11, k12, k13, k14, bne_self_eq_false, Bool.false_eq_true, if_false, beq_self_eq_true, if_true, e [1, 2, 4, 7] (by decide), e [0, 25, 20, 15, 10, 35] (by decide), e [0, 2, 0] (by decide), e [0, 1] (by decide), e [3, 1] (by decide), e [0, 2, 5, 7] (by decide)]
theorem works : f16 2100 = some true := f16_of (by omega) (by omega) k1 k2 k3 k4 k5 k6 k7 k8 k9 k10 k11 k12 k13 k14
end
section
def cap (v : Int) : Int := if v < 1048576 then v else 1048576
def fh : List Int → List Int → Nat → Int
  | s :: a, c :: b => fun y => cap (mv s.toNat (fh a b) c.toNat y)
  | _, _ => fun x => if x = 0 then 0 else 1048576
theorem fh_bd : ∀ (a b : List Int) (y : Nat), 0 ≤ fh a b y ∧ fh a b y ≤ 1048576
  | [], b, y => by
    have e : fh [] b = fun x => if x = 0 then 0 else 1048576 := by cases b <;> rfl
    rw [e]; dsimp only; split <;> decide
  | _ :: _, [], y => by
    show 0 ≤ (if y = 0 then (0 : Int) else 1048576) ∧ (if y = 0 then (0 : Int) else 1048576) ≤ 1048576
    split <;> decide
  | s :: a, c :: b, y => by
    have := mv_nonneg (s := s.toNat) (fun y => (fh_bd a b y).1) c.toNat y
    show 0 ≤ cap _ ∧ cap _ ≤ 1048576
    unfold cap
    split <;> omega
theorem fh_fw : ∀ (a b : List Int), (∀ x ∈ a, 1 ≤ x) → (∀ x ∈ b, 0 ≤ x ∧ x ≤ 1000) → ∀ y : Nat, y ≤ 1000 → (fw a b y = fh a b y ∧ fh a b y ≤ y) ∨ (fw a b y = 1001 ∧ fh a b y = 1048576)
  | [], b, _, _, y, _ => by
    have e : fh [] b = fun x => if x = 0 then 0 else 1048576 := by cases b <;> rfl
    have e' : fw [] b = fun x => if x = 0 then 0 else 1001 := by cases b <;> rfl
    rw [e, e']; dsimp only
    by_cases h : y = 0
    · subst h; exact Or.inl ⟨rfl, Int.le_refl _⟩
    · rw [if_neg h, if_neg h]; exact Or.inr ⟨rfl, rfl⟩
  | _ :: _, [], _, _, y, _ => by
    show ((if y = 0 then (0 : Int) else 1001) = (if y = 0 then (0 : Int) else 1048576) ∧ (if y = 0 then (0 : Int) else 1048576) ≤ (y : Int)) ∨ ((if y = 0 then (0 : Int) else 1001) = 1001 ∧ (if y = 0 then (0 : Int) else 1048576) = 1048576)
    by_cases h : y = 0
    · subst h; exact Or.inl ⟨rfl, Int.le_refl _⟩
    · rw [if_neg h, if_neg h]; exact Or.inr ⟨rfl, rfl⟩
  | s :: a, c :: b, ha, hb, y, hy => by
    have ih := fh_fw a b (fun x hx => ha x (by simp [hx])) (fun x hx => hb x (by simp [hx]))
    have hc := hb c (by simp)
    have hs := ha s (by simp)
    obtain ⟨k, e⟩ := ma_fst (s := s.toNat) (g := fh a b) y c.toNat
    have hle := k.le
    have hfit := k.fit
    have hbst := k.best
    have hfst := k.first
    show (val s.toNat c.toNat (fw a b) y = cap (mv s.toNat (fh a b) c.toNat y) ∧ cap (mv s.toNat (fh a b) c.toNat y) ≤ y) ∨ (val s.toNat c.toNat (fw a b) y = 1001 ∧ cap (mv s.toNat (fh a b) c.toNat y) = 1048576)
    generalize ma s.toNat (fh a b) c.toNat y = m at *
    have hmm : m * 1 ≤ m * s.toNat := Nat.mul_le_mul_left _ (by omega)
    rcases ih (y - m * s.toNat) (by omega) with ⟨h1, h2⟩ | ⟨h1, h2⟩
    · have hF : Fst s.toNat (fw a b) c.toNat y m := ⟨hle, hfit, fun j hj hx => by
        have := hbst j hj hx
        rcases ih (y - j * s.toNat) (by omega) with ⟨h3, h4⟩ | ⟨h3, h4⟩ <;> omega, fun j hj hx => by
        have := hfst j hj hx
        rcases ih (y - j * s.toNat) (by omega) with ⟨h3, h4⟩ | ⟨h3, h4⟩ <;> omega⟩
      obtain ⟨u1, u2⟩ := hF.uniq
      left
      unfold val cap
      rw [u2, e, h1, if_pos (by omega), if_pos (by omega)]
      exact ⟨rfl, by omega⟩
    · right
      obtain ⟨k', e'⟩ := ma_fst (s := s.toNat) (g := fw a b) y c.toNat
      have hle' := k'.le
      have hfit' := k'.fit
      have hv : 1001 ≤ mv s.toNat (fw a b) c.toNat y := by
        rw [e']
        generalize ma s.toNat (fw a b) c.toNat y = m' at *
        have := hbst m' hle' hfit'
        rcases ih (y - m' * s.toNat) (by omega) with ⟨h3, h4⟩ | ⟨h3, h4⟩ <;> omega
      unfold val cap
      rw [if_neg (by omega), e, h2, if_neg (by omega)]
      exact ⟨rfl, rfl⟩
theorem fh_ma {s c : Int} {a b : List Int} (ha : ∀ x ∈ s :: a, 1 ≤ x) (hb : ∀ x ∈ c :: b, 0 ≤ x ∧ x ≤ 1000) {y : Nat} (hy : y ≤ 1000) (h : fh (s :: a) (c :: b) y < 1048576) :
    let m := ma s.toNat (fw a b) c.toNat y
    m ≤ c.toNat ∧ m * s.toNat ≤ y ∧ fh (s :: a) (c :: b) y = fh a b (y - m * s.toNat) + (m : Nat) ∧ (∀ j, j < m → j * s.toNat ≤ y → fh a b (y - j * s.toNat) + (j : Nat) ≠ fh (s :: a) (c :: b) y) ∧ fh a b (y - m * s.toNat) < 1048576 := by
  have ih := fh_fw a b (fun x hx => ha x (by simp [hx])) (fun x hx => hb x (by simp [hx]))
  have hs := ha s (by simp)
  obtain ⟨k, e⟩ := ma_fst (s := s.toNat) (g := fh a b) y c.toNat
  have hle := k.le
  have hfit := k.fit
  have hbst := k.best
  have hfst := k.first
  have h : cap (mv s.toNat (fh a b) c.toNat y) < 1048576 := h
  have hv : fh (s :: a) (c :: b) y = mv s.toNat (fh a b) c.toNat y := by
    show cap _ = _
    unfold cap at h ⊢
    split at h
    · rename_i h2; rw [if_pos h2]
    · omega
  have hlt : mv s.toNat (fh a b) c.toNat y < 1048576 := by
    unfold cap at h
    split at h <;> omega
  rw [e] at hv hlt
  generalize ma s.toNat (fh a b) c.toNat y = m at *
  have hmm : m * 1 ≤ m * s.toNat := Nat.mul_le_mul_left _ (by omega)
  have h0 := fh_bd a b (y - m * s.toNat)
  rcases ih (y - m * s.toNat) (by omega) with ⟨h1, h2⟩ | ⟨h1, h2⟩
  · have hF : Fst s.toNat (fw a b) c.toNat y m := ⟨hle, hfit, fun j hj hx => by
      have := hbst j hj hx
      rcases ih (y - j * s.toNat) (by omega) with ⟨h3, h4⟩ | ⟨h3, h4⟩ <;> omega, fun j hj hx => by
      have := hfst j hj hx
      rcases ih (y - j * s.toNat) (by omega) with ⟨h3, h4⟩ | ⟨h3, h4⟩ <;> omega⟩
    obtain ⟨u1, u2⟩ := hF.uniq
    rw [u1]
    refine ⟨hle, hfit, hv, fun j hj hx => ?_, by omega⟩
    have := hfst j hj hx
    omega
  · omega

-- the three loops of the table, as each row has them
section
variable (F : Nat) (x1 x2 : List Int) (x3 : Int)
def q5 (K r : Nat) : Nat → Int → (List Int) → Option (List Int)
  | 0, _, _ => none
  | k + 1, x6, x5 =>
    if (decide (x6 ≤ x3)) = true then
      req ((0 : Int) ≤ ((List.length x1 : Nat) : Int) ∧ (((List.length x1 : Nat) : Int) : Int) < ((K : Nat) : Int) ∧ 0 + (0 + Int.toNat ((List.length x1 : Nat) : Int)) = r + 0) <|
      req ((0 : Int) ≤ x6 ∧ (x6 : Int) < (((Int.toNat (w64 (x3 + 1))) : Nat) : Int)) <|
      req ((0 + (Int.toNat x6)) < List.length x5) <|
      q5 K r k (w64 (x6 + 1)) (List.set x5 (0 + (Int.toNat x6)) 1048576)
    else
      some x5
def q17 (i : Int) (K r : Nat) (x16 : Int) (x7 : List Int) : Nat → Int → Int → Option Int
  | 0, _, _ => none
  | k + 1, x17, x18 =>
    Option.bind (at? x2 i) fun x19 =>
    if (decide (x18 ≤ x19)) = true then
      Option.bind (at? x1 i) fun x20 =>
      if (decide ((w64 (x18 * x20)) ≤ x16)) = true then
        req ((0 : Int) ≤ (w64 (i + 1)) ∧ ((w64 (i + 1)) : Int) < ((K : Nat) : Int) ∧ 0 + (0 + Int.toNat (w64 (i + 1))) = r + 0) <|
        req ((0 : Int) ≤ (w64 (x16 - (w64 (x18 * x20)))) ∧ ((w64 (x16 - (w64 (x18 * x20)))) : Int) < (((Int.toNat (w64 (x3 + 1))) : Nat) : Int)) <|
        Option.bind ((x7)[(0 + (Int.toNat (w64 (x16 - (w64 (x18 * x20))))))]?) fun x21 =>
        q17 i K r x16 x7 k (if (w64 (x18 + x21)) < x17 then (w64 (x18 + x21)) else x17) (w64 (x18 + 1))
      else
        some x17
    else
      some x17
def q13 (i : Int) (K r r' : Nat) (x7 : List Int) : Nat → Int → (List Int) → Option (List Int)
  | 0, _, _ => none
  | k + 1, x16, x15 =>
    if (decide (x16 ≤ x3)) = true then
      Option.bind (q17 x1 x2 x3 i K r x16 x7 F 1048576 0) fun x22 =>
      req ((0 : Int) ≤ i ∧ (i : Int) < ((K : Nat) : Int) ∧ 0 + (0 + Int.toNat i) = r' + 0) <|
      req ((0 : Int) ≤ x16 ∧ (x16 : Int) < (((Int.toNat (w64 (x3 + 1))) : Nat) : Int)) <|
      req ((0 + (Int.toNat x16)) < List.length x15) <|
      q13 i K r r' x7 k (w64 (x16 + 1)) (List.set x15 (0 + (Int.toNat x16)) x22)
    else
      some x15
end
theorem q5_eq {F n m : Nat} {a : List Int} (hn : n ≤ 1000) (ha : a.length = m) (hF : 1100 ≤ F) : q5 a n (m + 1) m F 1 (List.replicate (n + 1) 0) = some (tab (n + 1) (fh [] [])) := by
  have key : ∀ (k x : Nat) (h : Nat → Int), 0 < x → x ≤ n + 1 → n + 1 < k + x → (∀ y, y < x → h y = fh [] [] y) → q5 a n (m + 1) m k x (tab (n + 1) h) = some (tab (n + 1) (fh [] [])) := by
    intro k
    induction k with
    | zero => intro x h _ _ h1; omega
    | succ k ih =>
      intro x h h0 h1 h2 h3
      have en : w64 ((n : Int) + 1) = ((n + 1 : Nat) : Int) := w64_succ (by omega)
      unfold q5
      rw [en, Int.toNat_natCast]
      by_cases hx : x < n + 1
      · rw [if_pos (by rw [decide_eq_true_eq]; omega), req_pos (by omega), req_pos (by omega), Int.toNat_natCast, Nat.zero_add, req_pos (by rw [tab_len]; omega), tab_set, w64_succ (by omega)]
        refine ih (x + 1) _ (by omega) (by omega) (by omega) fun y hy => ?_
        by_cases he : y = x
        · rw [if_pos he, he]
          show (1048576 : Int) = if x = 0 then 0 else 1048576
          rw [if_neg (by omega)]
        · rw [if_neg he]; exact h3 y (by omega)
      · rw [if_neg (by rw [decide_eq_true_eq]; omega)]
        exact congrArg some (tab_congr fun y hy => h3 y (by omega))
  have := key F 1 (fun _ => 0) (by omega) (by omega) (by omega) (fun y hy => by have : y = 0 := by omega
                                                                                subst this; rfl)
  rw [tab_zero]
  exact this
theorem mv_stop {s : Nat} {g : Nat → Int} {x t : Nat} : ∀ c, t ≤ c → x < (t + 1) * s → mv s g c x = mv s g t x
  | 0, h, _ => by have : t = 0 := by omega
                  rw [this]
  | c + 1, h, hx => by
    by_cases e : t = c + 1
    · rw [e]
    · have h1 : (t + 1) * s ≤ (c + 1) * s := Nat.mul_le_mul_right s (by omega)
      have d1 : mv s g (c + 1) x = if (c + 1) * s ≤ x ∧ g (x - (c + 1) * s) + ((c + 1 : Nat) : Int) < mv s g c x then g (x - (c + 1) * s) + ((c + 1 : Nat) : Int) else mv s g c x := rfl
      rw [d1, if_neg (by omega)]
      exact mv_stop c (by omega) hx
theorem q17_eq {F n : Nat} {a b : List Int} {g : Nat → Int} {s c j K x : Nat} (hF : 1100 ≤ F) (hn : n ≤ 1000) (hx : x ≤ n) (hg : ∀ y, 0 ≤ g y ∧ g y ≤ 1048576) (hs : 1 ≤ s ∧ s ≤ 30) (hc : c ≤ 1000) (ha : a[j]? = some (s : Int)) (hb : b[j]? = some (c : Int)) (hj : j + 1 < K) (hj9 : j < 100) :
    q17 a b n j K (j + 1) x (tab (n + 1) g) F 1048576 0 = some (cap (mv s g c x)) := by
  have key : ∀ (k t : Nat) (l : Int), t ≤ c + 1 → c + 1 < k + t → (t = 0 ∧ l = 1048576 ∨ ∃ u, t = u + 1 ∧ u * s ≤ x ∧ l = cap (mv s g u x)) → q17 a b n j K (j + 1) x (tab (n + 1) g) k l t = some (cap (mv s g c x)) := by
    intro k
    induction k with
    | zero => intro t l _ h; omega
    | succ k ih =>
      intro t l h1 h2 h3
      unfold q17
      rw [at_of hb, Option.bind_some]
      by_cases ht : t ≤ c
      · have hts : t * s ≤ 1000 * 30 := Nat.mul_le_mul (by omega) hs.2
        have e : w64 ((t : Int) * s) = ((t * s : Nat) : Int) := by rw [← Int.natCast_mul, w64_nat (by omega)]
        have en : w64 ((n : Int) + 1) = ((n + 1 : Nat) : Int) := w64_succ (by omega)
        rw [if_pos (by rw [decide_eq_true_eq]; omega), at_of ha, Option.bind_some, e]
        by_cases hf : t * s ≤ x
        · have eg := hg (x - t * s)
          have es : w64 ((x : Int) - ((t * s : Nat) : Int)) = ((x - t * s : Nat) : Int) := by rw [w64_in (by omega)]; omega
          rw [if_pos (by rw [decide_eq_true_eq]; omega), w64_succ (by omega), req_pos (by omega), es, en, Int.toNat_natCast, Int.toNat_natCast, req_pos (by omega), Nat.zero_add, tab_get _ (by omega), Option.bind_some, w64_in (n := (t : Int) + g (x - t * s)) (by omega), w64_succ (by omega)]
          refine ih (t + 1) _ (by omega) (by omega) (Or.inr ⟨t, rfl, hf, ?_⟩)
          rcases h3 with ⟨rfl, rfl⟩ | ⟨u, rfl, hu, rfl⟩
          · show (if ((0 : Nat) : Int) + g (x - 0 * s) < 1048576 then ((0 : Nat) : Int) + g (x - 0 * s) else 1048576) = cap (g x)
            rw [Nat.zero_mul, Nat.sub_zero]
            unfold cap
            split <;> split <;> omega
          · have d1 : mv s g (u + 1) x = if (u + 1) * s ≤ x ∧ g (x - (u + 1) * s) + ((u + 1 : Nat) : Int) < mv s g u x then g (x - (u + 1) * s) + ((u + 1 : Nat) : Int) else mv s g u x := rfl
            rw [d1]
            unfold cap
            split <;> split <;> split <;> (try split) <;> omega
        · rw [if_neg (by rw [decide_eq_true_eq]; omega)]
          rcases h3 with ⟨rfl, rfl⟩ | ⟨u, rfl, hu, rfl⟩
          · omega
          · rw [mv_stop (t := u) c (by omega) (by omega)]
      · rw [if_neg (by rw [decide_eq_true_eq]; omega)]
        rcases h3 with ⟨rfl, rfl⟩ | ⟨u, rfl, hu, rfl⟩
        · omega
        · rw [show u = c by omega]
  exact key F 0 1048576 (by omega) (by omega) (Or.inl ⟨rfl, rfl⟩)
theorem q13_eq {F n j m : Nat} {a b : List Int} (hF : 1100 ≤ F) (hn : n ≤ 1000) (hab : GoodM a b) (hm : a.length = m) (hj : j < m) :
    q13 F a b n j (m + 1) (j + 1) j (tab (n + 1) (fh (a.drop (j + 1)) (b.drop (j + 1)))) F 0 (List.replicate (n + 1) 0) = some (tab (n + 1) (fh (a.drop j) (b.drop j))) := by
  have hl := hab.len
  have h5 := hab.five
  have hia : j < a.length := by omega
  have hib : j < b.length := by omega
  have hsa := hab.sz _ (List.getElem_mem hia)
  have hsb := hab.st _ (List.getElem_mem hib)
  obtain ⟨s, es⟩ : ∃ s : Nat, a[j] = s := ⟨a[j].toNat, by omega⟩
  obtain ⟨c, ec⟩ : ∃ c : Nat, b[j] = c := ⟨b[j].toNat, by omega⟩
  have e3 : fh (a.drop j) (b.drop j) = fun y => cap (mv s (fh (a.drop (j + 1)) (b.drop (j + 1))) c y) := by
    rw [drop_cons hia, drop_cons hib, es, ec]; rfl
  rw [e3]
  have ha' : a[j]? = some (s : Int) := by rw [List.getElem?_eq_getElem hia, es]
  have hb' : b[j]? = some (c : Int) := by rw [List.getElem?_eq_getElem hib, ec]
  have hg := fh_bd (a.drop (j + 1)) (b.drop (j + 1))
  generalize fh (a.drop (j + 1)) (b.drop (j + 1)) = g at *
  have key : ∀ (k x : Nat) (h : Nat → Int), x ≤ n + 1 → n + 1 < k + x → (∀ y, y < x → h y = cap (mv s g c y)) → q13 F a b n j (m + 1) (j + 1) j (tab (n + 1) g) k x (tab (n + 1) h) = some (tab (n + 1) fun y => cap (mv s g c y)) := by
    intro k
    induction k with
    | zero => intro x h _ h1; omega
    | succ k ih =>
      intro x h h1 h2 h3
      have en : w64 ((n : Int) + 1) = ((n + 1 : Nat) : Int) := w64_succ (by omega)
      unfold q13
      by_cases hx : x < n + 1
      · rw [if_pos (by rw [decide_eq_true_eq]; omega), q17_eq hF hn (by omega) hg (by omega) (by omega) ha' hb' (by omega) (by omega), Option.bind_some, en, Int.toNat_natCast, req_pos (by omega), Int.toNat_natCast, req_pos (by omega), Nat.zero_add, req_pos (by rw [tab_len]; omega), tab_set, w64_succ (by omega)]
        refine ih (x + 1) _ (by omega) (by omega) fun y hy => ?_
        rw [Int.toNat_natCast]
        by_cases he : y = x
        · rw [if_pos he, he]
        · rw [if_neg he]; exact h3 y (by omega)
      · rw [if_neg (by rw [decide_eq_true_eq]; omega)]
        exact congrArg some (tab_congr fun y hy => h3 y (by omega))
  have := key F 0 (fun _ => 0) (by omega) (by omega) (fun y hy => by omega)
  rw [tab_zero]
  exact this
end
section
variable {F : Nat} {x1 x2 : List Int} {x3 x16 : Int} {x15 r0 r1 r2 r3 r4 : List Int}
theorem u_f88_p5 : f88_p5 F x1 x2 x3 = q5 x1 x3 2 1 := by
 funext k x l; induction k generalizing x l; rfl; unfold f88_p5 q5; simp only [*]
theorem u_f88_p17_1 : f88_p17_1 F x1 x2 x3 x16 x15 r0 = q17 x1 x2 x3 (w64 (x1.length - 1)) 2 1 x16 r0 := by
 funext k x l; induction k generalizing x l; rfl; unfold f88_p17_1 q17; simp only [*]
theorem u_f88_p13 : f88_p13 F x1 x2 x3 r0 = q13 F x1 x2 x3 (w64 (x1.length - 1)) 2 1 0 r0 := by
 funext k x l; induction k generalizing x l; rfl; unfold f88_p13 q13; simp only [*, u_f88_p17_1]
theorem u_f88_p5_1 : f88_p5_1 F x1 x2 x3 = q5 x1 x3 3 2 := by
 funext k x l; induction k generalizing x l; rfl; unfold f88_p5_1 q5; simp only [*]
theorem u_f88_p17_3 : f88_p17_3 F x1 x2 x3 x16 x15 r0 = q17 x1 x2 x3 (w64 (x1.length - 1)) 3 2 x16 r0 := by
 funext k x l; induction k generalizing x l; rfl; unfold f88_p17_3 q17; simp only [*]
theorem u_f88_p13_1 : f88_p13_1 F x1 x2 x3 r0 = q13 F x1 x2 x3 (w64 (x1.length - 1)) 3 2 1 r0 := by
 funext k x l; induction k generalizing x l; rfl; unfold f88_p13_1 q13; simp only [*, u_f88_p17_3]
theorem u_f88_p17_5 : f88_p17_5 F x1 x2 x3 x16 x15 r0 r1 = q17 x1 x2 x3 (w64 ((w64 (x1.length - 1)) - 1)) 3 1 x16 r0 := by
 funext k x l; induction k generalizing x l; rfl; unfold f88_p17_5 q17; simp only [*]
theorem u_f88_p13_2 : f88_p13_2 F x1 x2 x3 r0 r1 = q13 F x1 x2 x3 (w64 ((w64 (x1.length - 1)) - 1)) 3 1 0 r0 := by
 funext k x l; induction k generalizing x l; rfl; unfold f88_p13_2 q13; simp only [*, u_f88_p17_5]
theorem u_f88_p5_2 : f88_p5_2 F x1 x2 x3 = q5 x1 x3 4 3 := by
 funext k x l; induction k generalizing x l; rfl; unfold f88_p5_2 q5; simp only [*]
theorem u_f88_p17_7 : f88_p17_7 F x1 x2 x3 x16 x15 r0 = q17 x1 x2 x3 (w64 (x1.length - 1)) 4 3 x16 r0 := by
 funext k x l; induction k generalizing x l; rfl; unfold f88_p17_7 q17; simp only [*]
theorem u_f88_p13_3 : f88_p13_3 F x1 x2 x3 r0 = q13 F x1 x2 x3 (w64 (x1.length - 1)) 4 3 2 r0 := by
 funext k x l; induction k generalizing x l; rfl; unfold f88_p13_3 q13; simp only [*, u_f88_p17_7]
theorem u_f88_p17_9 : f88_p17_9 F x1 x2 x3 x16 x15 r0 r1 = q17 x1 x2 x3 (w64 ((w64 (x1.length - 1)) - 1)) 4 2 x16 r0 := by
 funext k x l; induction k generalizing x l; rfl; unfold f88_p17_9 q17; simp only [*]
theorem u_f88_p13_4 : f88_p13_4 F x1 x2 x3 r0 r1 = q13 F x1 x2 x3 (w64 ((w64 (x1.length - 1)) - 1)) 4 2 1 r0 := by
 funext k x l; induction k generalizing x l; rfl; unfold f88_p13_4 q13; simp only [*, u_f88_p17_9]
theorem u_f88_p17_11 : f88_p17_11 F x1 x2 x3 x16 x15 r0 r1 r2 = q17 x1 x2 x3 (w64 ((w64 ((w64 (x1.length - 1)) - 1)) - 1)) 4 1 x16 r0 := by
 funext k x l; induction k generalizing x l; rfl; unfold f88_p17_11 q17; simp only [*]
theorem u_f88_p13_5 : f88_p13_5 F x1 x2 x3 r0 r1 r2 = q13 F x1 x2 x3 (w64 ((w64 ((w64 (x1.length - 1)) - 1)) - 1)) 4 1 0 r0 := by
 funext k x l; induction k generalizing x l; rfl; unfold f88_p13_5 q13; simp only [*, u_f88_p17_11]
theorem u_f88_p5_3 : f88_p5_3 F x1 x2 x3 = q5 x1 x3 5 4 := by
 funext k x l; induction k generalizing x l; rfl; unfold f88_p5_3 q5; simp only [*]
theorem u_f88_p17_13 : f88_p17_13 F x1 x2 x3 x16 x15 r0 = q17 x1 x2 x3 (w64 (x1.length - 1)) 5 4 x16 r0 := by
 funext k x l; induction k generalizing x l; rfl; unfold f88_p17_13 q17; simp only [*]
theorem u_f88_p13_6 : f88_p13_6 F x1 x2 x3 r0 = q13 F x1 x2 x3 (w64 (x1.length - 1)) 5 4 3 r0 := by
 funext k x l; induction k generalizing x l; rfl; unfold f88_p13_6 q13; simp only [*, u_f88_p17_13]
theorem u_f88_p17_15 : f88_p17_15 F x1 x2 x3 x16 x15 r0 r1 = q17 x1 x2 x3 (w64 ((w64 (x1.length - 1)) - 1)) 5 3 x16 r0 := by
 funext k x l; induction k generalizing x l; rfl; unfold f88_p17_15 q17; simp only [*]
theorem u_f88_p13_7 : f88_p13_7 F x1 x2 x3 r0 r1 = q13 F x1 x2 x3 (w64 ((w64 (x1.length - 1)) - 1)) 5 3 2 r0 := by
 funext k x l; induction k generalizing x l; rfl; unfold f88_p13_7 q13; simp only [*, u_f88_p17_15]
theorem u_f88_p17_17 : f88_p17_17 F x1 x2 x3 x16 x15 r0 r1 r2 = q17 x1 x2 x3 (w64 ((w64 ((w64 (x1.length - 1)) - 1)) - 1)) 5 2 x16 r0 := by
 funext k x l; induction k generalizing x l; rfl; unfold f88_p17_17 q17; simp only [*]
theorem u_f88_p13_8 : f88_p13_8 F x1 x2 x3 r0 r1 r2 = q13 F x1 x2 x3 (w64 ((w64 ((w64 (x1.length - 1)) - 1)) - 1)) 5 2 1 r0 := by
 funext k x l; induction k generalizing x l; rfl; unfold f88_p13_8 q13; simp only [*, u_f88_p17_17]
theorem u_f88_p17_19 : f88_p17_19 F x1 x2 x3 x16 x15 r0 r1 r2 r3 = q17 x1 x2 x3 (w64 ((w64 ((w64 ((w64 (x1.length - 1)) - 1)) - 1)) - 1)) 5 1 x16 r0 := by
 funext k x l; induction k generalizing x l; rfl; unfold f88_p17_19 q17; simp only [*]
theorem u_f88_p13_9 : f88_p13_9 F x1 x2 x3 r0 r1 r2 r3 = q13 F x1 x2 x3 (w64 ((w64 ((w64 ((w64 (x1.length - 1)) - 1)) - 1)) - 1)) 5 1 0 r0 := by
 funext k x l; induction k generalizing x l; rfl; unfold f88_p13_9 q13; simp only [*, u_f88_p17_19]
theorem u_f88_p5_4 : f88_p5_4 F x1 x2 x3 = q5 x1 x3 6 5 := by
 funext k x l; induction k generalizing x l; rfl; unfold f88_p5_4 q5; simp only [*]
theorem u_f88_p17_21 : f88_p17_21 F x1 x2 x3 x16 x15 r0 = q17 x1 x2 x3 (w64 (x1.length - 1)) 6 5 x16 r0 := by
 funext k x l; induction k generalizing x l; rfl; unfold f88_p17_21 q17; simp only [*]
theorem u_f88_p13_10 : f88_p13_10 F x1 x2 x3 r0 = q13 F x1 x2 x3 (w64 (x1.length - 1)) 6 5 4 r0 := by
 funext k x l; induction k generalizing x l; rfl; unfold f88_p13_10 q13; simp only [*, u_f88_p17_21]
theorem u_f88_p17_23 : f88_p17_23 F x1 x2 x3 x16 x15 r0 r1 = q17 x1 x2 x3 (w64 ((w64 (x1.length - 1)) - 1)) 6 4 x16 r0 := by
 funext k x l; induction k generalizing x l; rfl; unfold f88_p17_23 q17; simp only [*]
theorem u_f88_p13_11 : f88_p13_11 F x1 x2 x3 r0 r1 = q13 F x1 x2 x3 (w64 ((w64 (x1.length - 1)) - 1)) 6 4 3 r0 := by
 funext k x l; induction k generalizing x l; rfl; unfold f88_p13_11 q13; simp only [*, u_f88_p17_23]
theorem u_f88_p17_25 : f88_p17_25 F x1 x2 x3 x16 x15 r0 r1 r2 = q17 x1 x2 x3 (w64 ((w64 ((w64 (x1.length - 1)) - 1)) - 1)) 6 3 x16 r0 := by
 funext k x l; induction k generalizing x l; rfl; unfold f88_p17_25 q17; simp only [*]
theorem u_f88_p13_12 : f88_p13_12 F x1 x2 x3 r0 r1 r2 = q13 F x1 x2 x3 (w64 ((w64 ((w64 (x1.length - 1)) - 1)) - 1)) 6 3 2 r0 := by
 funext k x l; induction k generalizing x l; rfl; unfold f88_p13_12 q13; simp only [*, u_f88_p17_25]
theorem u_f88_p17_27 : f88_p17_27 F x1 x2 x3 x16 x15 r0 r1 r2 r3 = q17 x1 x2 x3 (w64 ((w64 ((w64 ((w64 (x1.length - 1)) - 1)) - 1)) - 1)) 6 2 x16 r0 := by
 funext k x l; induction k generalizing x l; rfl; unfold f88_p17_27 q17; simp only [*]
theorem u_f88_p13_13 : f88_p13_13 F x1 x2 x3 r0 r1 r2 r3 = q13 F x1 x2 x3 (w64 ((w64 ((w64 ((w64 (x1.length - 1)) - 1)) - 1)) - 1)) 6 2 1 r0 := by
 funext k x l; induction k generalizing x l; rfl; unfold f88_p13_13 q13; simp only [*, u_f88_p17_27]
theorem u_f88_p17_29 : f88_p17_29 F x1 x2 x3 x16 x15 r0 r1 r2 r3 r4 = q17 x1 x2 x3 (w64 ((w64 ((w64 ((w64 ((w64 (x1.length - 1)) - 1)) - 1)) - 1)) - 1)) 6 1 x16 r0 := by
 funext k x l; induction k generalizing x l; rfl; unfold f88_p17_29 q17; simp only [*]
theorem u_f88_p13_14 : f88_p13_14 F x1 x2 x3 r0 r1 r2 r3 r4 = q13 F x1 x2 x3 (w64 ((w64 ((w64 ((w64 ((w64 (x1.length - 1)) - 1)) - 1)) - 1)) - 1)) 6 1 0 r0 := by
 funext k x l; induction k generalizing x l; rfl; unfold f88_p13_14 q13; simp only [*, u_f88_p17_29]
end
section
def rows (a b : List Int) (n : Nat) : List (List Int) := (List.range (a.length + 1)).map fun i => tab (n + 1) (fh (a.drop i) (b.drop i))
theorem rows_get {a b : List Int} {n i : Nat} (h : i ≤ a.length) : at? (rows a b n) (i : Int) = some (tab (n + 1) (fh (a.drop i) (b.drop i))) := by
  refine at_of ?_
  unfold rows
  rw [List.getElem?_map, List.getElem?_range (by omega)]
  rfl
theorem f88_eq {F n : Nat} {a b : List Int} (hF : 1100 ≤ F) (hn : n ≤ 1000) (hab : GoodM a b) (h0 : 0 < a.length) : f88 F a b n = some (rows a b n) := by
  have hl := hab.len
  have h5 := hab.five
  have en : w64 ((n : Int) + 1) = ((n + 1 : Nat) : Int) := w64_succ (by omega)
  have d0 : fh (a.drop a.length) (b.drop a.length) = fh [] [] := by
    rw [List.drop_eq_nil_of_le (Nat.le_refl _), List.drop_eq_nil_of_le (by omega)]
  have e5 : ∀ m, a.length = m → q5 a n (m + 1) m F 1 (List.replicate (n + 1) 0) = some (tab (n + 1) (fh (a.drop m) (b.drop m))) := fun m hm => by subst hm; rw [q5_eq hn rfl hF, d0]
  have e13 := fun m j hm hj => q13_eq (F := F) (n := n) (j := j) (m := m) hF hn hab hm hj
  have v0 : w64 (((1 : Nat) : Int) - 1) = ((0 : Nat) : Int) := by decide
  have v1 : w64 (((2 : Nat) : Int) - 1) = ((1 : Nat) : Int) := by decide
  have v2 : w64 (((3 : Nat) : Int) - 1) = ((2 : Nat) : Int) := by decide
  have v3 : w64 (((4 : Nat) : Int) - 1) = ((3 : Nat) : Int) := by decide
  have v4 : w64 (((5 : Nat) : Int) - 1) = ((4 : Nat) : Int) := by decide
  have tk : ∀ g : Nat → Int, List.drop 0 (List.take (0 + (n + 1)) (tab (n + 1) g)) = tab (n + 1) g := fun g => take_tab (n + 1) g
  have hr : (0 : Int) ≤ ((n + 1 : Nat) : Int) ∧ ((n + 1 : Nat) : Int) ≤ ((n + 1 : Nat) : Int) ∧ ((n + 1 : Nat) : Int) ≤ 1099511627776 := by omega
  have hq : 0 + (n + 1) ≤ n + 1 := by omega
  unfold f88 rows
  simp only [u_f88_p5, u_f88_p5_1, u_f88_p5_2, u_f88_p5_3, u_f88_p5_4, u_f88_p13, u_f88_p13_1, u_f88_p13_2, u_f88_p13_3, u_f88_p13_4, u_f88_p13_5, u_f88_p13_6, u_f88_p13_7, u_f88_p13_8, u_f88_p13_9, u_f88_p13_10, u_f88_p13_11, u_f88_p13_12, u_f88_p13_13, u_f88_p13_14]
  rw [en, Int.toNat_natCast]
  rcases (by omega : a.length = 1 ∨ a.length = 2 ∨ a.length = 3 ∨ a.length = 4 ∨ a.length = 5) with h | h | h | h | h
  · have g0 := e13 1 0 h (by omega)
    simp only [h, v0, e5 _ h, g0, req_pos hr, req_pos hq, Option.bind_some, tab_len, tk]; rfl
  · have g0 := e13 2 0 h (by omega)
    have g1 := e13 2 1 h (by omega)
    simp only [h, v0, v1, e5 _ h, g0, g1, req_pos hr, req_pos hq, Option.bind_some, tab_len, tk]; rfl
  · have g0 := e13 3 0 h (by omega)
    have g1 := e13 3 1 h (by omega)
    have g2 := e13 3 2 h (by omega)
    simp only [h, v0, v1, v2, e5 _ h, g0, g1, g2, req_pos hr, req_pos hq, Option.bind_some, tab_len, tk]; rfl
  · have g0 := e13 4 0 h (by omega)
    have g1 := e13 4 1 h (by omega)
    have g2 := e13 4 2 h (by omega)
    have g3 := e13 4 3 h (by omega)
    simp only [h, v0, v1, v2, v3, e5 _ h, g0, g1, g2, g3, req_pos hr, req_pos hq, Option.bind_some, tab_len, tk]; rfl
  · have g0 := e13 5 0 h (by omega)
    have g1 := e13 5 1 h (by omega)
    have g2 := e13 5 2 h (by omega)
    have g3 := e13 5 3 h (by omega)
    have g4 := e13 5 4 h (by omega)
    simp only [h, v0, v1, v2, v3, v4, e5 _ h, g0, g1, g2, g3, g4, req_pos hr, req_pos hq, Option.bind_some, tab_len, tk]; rfl
theorem f63_in {F n j y : Nat} {a b : List Int} (hF : 1100 ≤ F) (hn : n ≤ 1000) (hy : y ≤ n) (hab : GoodM a b) (hj : j < a.length) (hf : fh (a.drop j) (b.drop j) y < 1048576) {x17 : List Int} :
    ∃ m : Nat, f63_p6_1 F a y (rows a b n) x17 j F 0 = some (m : Int) ∧ m * (a[j]).toNat ≤ y ∧ m ≤ 1000 ∧ fillL (a.drop j) (b.drop j) y = (m : Int) :: fillL (a.drop (j + 1)) (b.drop (j + 1)) (y - m * (a[j]).toNat) ∧ fh (a.drop (j + 1)) (b.drop (j + 1)) (y - m * (a[j]).toNat) < 1048576 := by
  have hl := hab.len
  have h5 := hab.five
  have hib : j < b.length := by omega
  have hsa := hab.sz _ (List.getElem_mem hj)
  have hsb := hab.st _ (List.getElem_mem hib)
  have da := drop_cons hj
  have db := drop_cons hib
  have hka : ∀ x ∈ a[j] :: a.drop (j + 1), 1 ≤ x := fun x hx => by
    rw [← da] at hx; exact (hab.sz x (List.mem_of_mem_drop hx)).1
  have hkb : ∀ x ∈ b[j] :: b.drop (j + 1), 0 ≤ x ∧ x ≤ 1000 := fun x hx => by
    rw [← db] at hx; exact hab.st x (List.mem_of_mem_drop hx)
  have r1 := rows_get (a := a) (b := b) (n := n) (i := j) (by omega)
  have r2 := rows_get (a := a) (b := b) (n := n) (i := j + 1) (by omega)
  rw [da, db] at r1 hf
  obtain ⟨m1, m2, m3, m4, m5⟩ := fh_ma hka hkb (by omega) hf
  refine ⟨ma (a[j]).toNat (fw (a.drop (j + 1)) (b.drop (j + 1))) (b[j]).toNat y, ?_, m2, by omega, by rw [da, db]; rfl, m5⟩
  obtain ⟨s, es⟩ : ∃ s : Nat, a[j] = s := ⟨a[j].toNat, by omega⟩
  generalize ma (a[j]).toNat (fw (a.drop (j + 1)) (b.drop (j + 1))) (b[j]).toNat y = m at *
  rw [es, Int.toNat_natCast] at m2 m3 m4 m5
  have hat : at? a (j : Int) = some (s : Int) := by rw [← es]; exact at_get hj
  rw [es] at r1
  have hmm : m * 1 ≤ m * s := Nat.mul_le_mul_left _ (by omega)
  have key : ∀ (k c : Nat), c ≤ m → m < k + c → f63_p6_1 F a y (rows a b n) x17 j k c = some (m : Int) := by
    intro k
    induction k with
    | zero => intro c _ h; omega
    | succ k ih =>
      intro c h1 h2
      have hcs : c * s ≤ m * s := Nat.mul_le_mul_right s h1
      have e : w64 ((c : Int) * s) = ((c * s : Nat) : Int) := by rw [← Int.natCast_mul, w64_nat (by omega)]
      have es2 : w64 ((y : Int) - ((c * s : Nat) : Int)) = ((y - c * s : Nat) : Int) := by rw [w64_in (by omega)]; omega
      have hb1 := fh_bd (a.drop (j + 1)) (b.drop (j + 1)) (y - c * s)
      unfold f63_p6_1
      rw [hat, Option.bind_some, e, if_neg (by rw [decide_eq_true_eq]; omega), w64_succ (by omega), r2, Option.bind_some, es2, tab_at _ (by omega), Option.bind_some, r1, Option.bind_some, tab_at _ (by omega), Option.bind_some, w64_in (n := (c : Int) + fh (a.drop (j + 1)) (b.drop (j + 1)) (y - c * s)) (by omega)]
      by_cases hc : c = m
      · subst hc
        rw [m3, if_neg (by simp; omega)]
      · have h4 := m4 c (by omega) (by omega)
        rw [if_pos (by rw [bne_iff_ne]; omega), w64_succ (by omega)]
        exact ih (c + 1) (by omega) (by omega)
  exact key F 0 (by omega) (by omega)
theorem f63_p2_eq {F n : Nat} {a b : List Int} (hF : 1100 ≤ F) (hn : n ≤ 1000) (hab : GoodM a b) : ∀ (k j y : Nat) (acc : List Int), j ≤ a.length → a.length < k + j → y ≤ n → acc.length ≤ j → fh (a.drop j) (b.drop j) y < 1048576 →
    f63_p2 F a (rows a b n) k y j acc = some (acc ++ fillL (a.drop j) (b.drop j) y) := by
  have hl := hab.len
  have h5 := hab.five
  intro k
  induction k with
  | zero => intro j y acc _ h; omega
  | succ k ih =>
    intro j y acc h1 h2 h3 h4 hf
    unfold f63_p2
    by_cases hj : j < a.length
    · have hsa := hab.sz _ (List.getElem_mem hj)
      obtain ⟨s, es⟩ : ∃ s : Nat, a[j] = s := ⟨a[j].toNat, by omega⟩
      obtain ⟨m, g1, g2, g3, g4, g5⟩ := f63_in (x17 := acc) hF hn h3 hab hj hf
      rw [es, Int.toNat_natCast] at g2 g4 g5
      have e : w64 ((m : Int) * s) = ((m * s : Nat) : Int) := by rw [← Int.natCast_mul, w64_nat (by omega)]
      have es2 : w64 ((y : Int) - ((m * s : Nat) : Int)) = ((y - m * s : Nat) : Int) := by rw [w64_in (by omega)]; omega
      rw [if_pos (by rw [decide_eq_true_eq]; omega), g1, Option.bind_some, req_pos (by simp; omega), at_get hj, Option.bind_some, es, e, es2, w64_succ (by omega), ih (j + 1) (y - m * s) _ (by omega) (by omega) (by omega) (by simp; omega) g5, g4]
      simp
    · rw [if_neg (by rw [decide_eq_true_eq]; omega), List.drop_eq_nil_of_le (by omega)]
      simp [fillL]
theorem f63_eq {F n : Nat} {a b : List Int} (hF : 1100 ≤ F) (hn : n ≤ 1000) (hab : GoodM a b) (h0 : 0 < a.length) : f63 F a b n = some (fillR a b n) := by
  have hl := hab.len
  have h5 := hab.five
  have r0 := rows_get (a := a) (b := b) (n := n) (i := 0) (by omega)
  have r0 : at? (rows a b n) 0 = some (tab (n + 1) (fh a b)) := r0
  have hrel := fh_fw a b (fun x hx => (hab.sz x hx).1) hab.st n hn
  unfold f63 fillR
  rw [f88_eq hF hn hab h0, Option.bind_some, r0, Option.bind_some, tab_at _ (by omega), Option.bind_some]
  rcases hrel with ⟨h1, h2⟩ | ⟨h1, h2⟩
  · have e2 := f63_p2_eq (F := F) hF hn hab F 0 n [] (by omega) (by omega) (Nat.le_refl _) (by simp) (by rw [List.drop_zero, List.drop_zero]; omega)
    rw [List.drop_zero, List.drop_zero, List.nil_append] at e2
    rw [if_neg (by rw [decide_eq_true_eq]; omega), if_neg (by omega), show f63_p2 F a (rows a b n) F n 0 [] = _ from e2, Option.bind_some, take0]
  · rw [if_pos (by rw [decide_eq_true_eq]; omega), if_pos h1]
end

end Go.Gh.Pack
