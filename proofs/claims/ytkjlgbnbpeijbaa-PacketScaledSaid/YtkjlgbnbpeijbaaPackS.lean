/- Packet: basics; sizes and stocks are checked alike. -/
import Derived.Test.YtkjlgbnbpeijbaaPack8N0
namespace Go.Gh.Pack
set_option linter.unusedVariables false
set_option linter.unusedSimpArgs false

theorem w64_in {n : Int} (h : -9223372036854775808 ≤ n ∧ n < 9223372036854775808) : w64 n = n := by
  unfold w64 IntKind.wrap
  simp [IntKind.bits, IntKind.signed]
  split <;> omega
theorem w64_nat {n : Nat} (h : n < 1000000000) : w64 (n : Int) = n := w64_in (by omega)
theorem w64_succ {n : Nat} (h : n < 1000000000) : w64 ((n : Int) + 1) = ((n + 1 : Nat) : Int) := by rw [w64_in (by omega)]; omega
theorem at_of {α : Type} {l : List α} {i : Nat} {x : α} (h : l[i]? = some x) : at? l ((i : Nat) : Int) = some x := by
  unfold at?; simp [h]
theorem at_get {α : Type} {l : List α} {i : Nat} (h : i < l.length) : at? l ((i : Nat) : Int) = some l[i] := at_of (List.getElem?_eq_getElem h)
theorem req_pos {α : Type} {p : Prop} [Decidable p] {x : Option α} (h : p) : req p x = x := by unfold req; rw [if_pos h]
theorem take0 {α : Type} (l : List α) : List.drop 0 (List.take (0 + l.length) l) = l := by simp
theorem drop_cons {α : Type} {l : List α} {i : Nat} (h : i < l.length) : l.drop i = l[i] :: l.drop (i + 1) := List.drop_eq_getElem_cons h

theorem f67_eq {F : Nat} {x a b : Int} : f67 F x a b = some (decide (a ≤ x ∧ x ≤ b)) := by
  unfold f67
  by_cases h : a ≤ x <;> simp [h]
theorem f23_p2_eq {F : Nat} {a b : List Int} (hab : a.length = b.length) (ha : a.length ≤ 5000) : ∀ (k i : Nat), i ≤ a.length → a.length < k + i → f23_p2 F a b k i = some (if a.drop i = b.drop i then .c1 else .c0) := by
  intro k
  induction k with
  | zero => intro i _ h; omega
  | succ k ih =>
    intro i h1 h2
    unfold f23_p2
    by_cases hi : i < a.length
    · rw [if_pos (by simp; omega), at_get hi, at_get (by omega : i < b.length), Option.bind_some, Option.bind_some]
      have e : (List.drop i a = List.drop i b) = (a[i] = b[i] ∧ List.drop (i + 1) a = List.drop (i + 1) b) := by rw [drop_cons hi, drop_cons (by omega : i < b.length), List.cons.injEq]
      simp only [e]
      by_cases he : a[i] = b[i]
      · rw [if_neg (by simp [he]), w64_succ (by omega), ih (i + 1) (by omega) (by omega)]
        simp only [he, true_and]
      · rw [if_pos (by simp [he]), if_neg (fun h => he h.1)]
    · rw [if_neg (by simp; omega), List.drop_eq_nil_of_le (by omega), List.drop_eq_nil_of_le (by omega)]
      rfl
theorem f23_eq {F : Nat} {a b : List Int} (ha : a.length < F) (hF : F ≤ 5000) : f23 F a b = some (decide (a = b)) := by
  unfold f23
  by_cases hab : a.length = b.length
  · have h := f23_p2_eq (F := F) hab (by omega) F 0 (by omega) (by omega)
    rw [List.drop_zero, List.drop_zero] at h
    rw [if_neg (by simp [hab]), show f23_p2 F a b F 0 = _ from h, Option.bind_some]
    by_cases he : a = b
    · rw [if_pos he, decide_eq_true he]
    · rw [if_neg he, decide_eq_false he]
  · rw [if_pos (by simp; omega), decide_eq_false (fun h => hab (by rw [h]))]

/- Sizes. -/
def ckL : Int → List Int → Int
  | _, [] => 0
  | p, x :: r => if 1 ≤ x ∧ x ≤ 30 then (if x ≤ p then 7 else ckL x r) else 1
def ck (l : List Int) : Int := if l.length = 0 then 4 else if l.length > 5 then 3 else ckL 0 l

theorem f26_p4_eq {F : Nat} {l : List Int} (hl : l.length ≤ 5) : ∀ (k i : Nat) (p : Int), i ≤ l.length → l.length < k + i →
    ∃ z, f26_p4 F l k p i = some z ∧ (ckL p (l.drop i) ≠ 0 → z = .c0 (ckL p (l.drop i))) ∧ (ckL p (l.drop i) = 0 → z = .c1) := by
  intro k
  induction k with
  | zero => intro i p _ h; omega
  | succ k ih =>
    intro i p h1 h2
    unfold f26_p4
    by_cases hi : i < l.length
    · rw [if_pos (by simp; omega), at_get hi, drop_cons hi]
      simp only [Option.bind_some, f67_eq, decide_eq_true_eq, ckL]
      by_cases hx : 1 ≤ l[i] ∧ l[i] ≤ 30
      · rw [if_pos hx, if_pos hx]
        by_cases hp : l[i] ≤ p
        · rw [if_pos hp, if_pos hp]
          exact ⟨_, rfl, fun _ => rfl, fun h => by cases h⟩
        · rw [if_neg hp, if_neg hp, w64_succ (by omega)]
          exact ih (i + 1) l[i] (by omega) (by omega)
      · rw [if_neg hx, if_neg hx]
        exact ⟨_, rfl, fun _ => rfl, fun h => by cases h⟩
    · rw [if_neg (by simp; omega), List.drop_eq_nil_of_le (by omega)]
      exact ⟨_, rfl, fun h => absurd rfl h, fun _ => rfl⟩
theorem f26_eq {F : Nat} {l : List Int} (hF : 10 ≤ F) : f26 F l = some (ck l) := by
  unfold f26 ck
  by_cases h0 : l.length = 0
  · rw [if_pos (by simp [h0]), if_pos h0]
  · rw [if_neg (by simp; intro h; exact h0 (by simp [h])), if_neg h0]
    by_cases h5 : l.length > 5
    · rw [if_pos (by simp; omega), if_pos h5]
    · rw [if_neg (by simp; omega), if_neg h5]
      obtain ⟨z, e1, e2, e3⟩ := f26_p4_eq (F := F) (l := l) (by omega) F 0 0 (by omega) (by omega)
      rw [List.drop_zero] at e2 e3
      rw [show f26_p4 F l F 0 0 = some z from e1, Option.bind_some]
      by_cases h : ckL 0 l = 0
      · rw [e3 h, h]
      · rw [e2 h]
theorem ckL_all : ∀ (l : List Int) (p : Int), ckL p l = 0 → ∀ x ∈ l, 1 ≤ x ∧ x ≤ 30 ∧ p < x := by
  intro l
  induction l with
  | nil => intro _ _ x hx; cases hx
  | cons y r ih =>
    intro p h x hx
    simp only [ckL] at h
    split at h
    · rename_i hy
      split at h
      · cases h
      · rcases List.mem_cons.1 hx with rfl | hx
        · omega
        · have := ih _ h x hx
          omega
    · cases h
theorem ck_zero {l : List Int} (h : ck l = 0) : 0 < l.length ∧ l.length ≤ 5 ∧ ckL 0 l = 0 := by
  unfold ck at h
  split at h
  · cases h
  · split at h
    · cases h
    · exact ⟨by omega, by omega, h⟩
theorem ck_all {l : List Int} (h : ck l = 0) : ∀ x ∈ l, 1 ≤ x ∧ x ≤ 30 := fun x hx => by
  have := ckL_all _ _ (ck_zero h).2.2 x hx
  omega

/- Stocks. -/
def stOk (l : List Int) : Bool := l.all fun x => decide (0 ≤ x ∧ x ≤ 40)
theorem stOk_iff {l : List Int} : stOk l = true ↔ ∀ x ∈ l, 0 ≤ x ∧ x ≤ 40 := by simp [stOk]
def stk (a b : List Int) : Int := if ck a = 0 then (if b.length = a.length then (if stOk b = true then 0 else 1) else 5) else ck a

theorem f92_p2_eq {F : Nat} {l : List Int} (hl : l.length ≤ 40) : ∀ (k i : Nat) (m : Int), i ≤ l.length → l.length < k + i → ∃ v, f92_p2 F l k m i = some v ∧ (v < 0 ↔ m < 0 ∨ ∃ x ∈ l.drop i, x < 0) := by
  intro k
  induction k with
  | zero => intro i m _ h; omega
  | succ k ih =>
    intro i m h1 h2
    unfold f92_p2
    by_cases hi : i < l.length
    · rw [if_pos (by simp; omega), at_get hi, Option.bind_some, w64_succ (by omega)]
      obtain ⟨v, e1, e2⟩ := ih (i + 1) (if l[i] < m then l[i] else m) (by omega) (by omega)
      refine ⟨v, e1, e2.trans ?_⟩
      rw [drop_cons hi]
      simp only [List.mem_cons, exists_eq_or_imp]
      have : (if l[i] < m then l[i] else m) < 0 ↔ m < 0 ∨ l[i] < 0 := by split <;> omega
      rw [this, or_assoc]
    · rw [if_neg (by simp; omega), List.drop_eq_nil_of_le (by omega)]
      exact ⟨m, rfl, by simp⟩
theorem f92_eq {F : Nat} {l : List Int} (hF : 100 ≤ F) (h0 : 0 < l.length) (hl : l.length ≤ 40) : ∃ v, f92 F l = some v ∧ (v < 0 ↔ ∃ x ∈ l, x < 0) := by
  unfold f92 f92_p0
  rw [if_neg (by simp; omega), Option.bind_some, show at? l 0 = some l[0] from at_get h0, Option.bind_some]
  obtain ⟨v, e1, e2⟩ := f92_p2_eq (F := F) hl F 1 l[0] (by omega) (by omega)
  rw [show f92_p2 F l F l[0] 1 = some v from e1, Option.bind_some]
  refine ⟨v, rfl, e2.trans ?_⟩
  have e : l = l[0] :: l.drop 1 := by have := drop_cons h0; rwa [List.drop_zero] at this
  constructor
  · rintro (h | ⟨x, hx, h⟩)
    · exact ⟨l[0], List.getElem_mem h0, h⟩
    · exact ⟨x, List.mem_of_mem_drop hx, h⟩
  · rintro ⟨x, hx, h⟩
    rw [e] at hx
    rcases List.mem_cons.1 hx with rfl | hx
    · exact .inl h
    · exact .inr ⟨x, hx, h⟩
theorem f85_p2_eq {F : Nat} {l : List Int} (hl : l.length ≤ 40) : ∀ (k i : Nat) (m : Int), i ≤ l.length → l.length < k + i → ∃ v, f85_p2 F l k m i = some v ∧ (v > 40 ↔ m > 40 ∨ ∃ x ∈ l.drop i, x > 40) := by
  intro k
  induction k with
  | zero => intro i m _ h; omega
  | succ k ih =>
    intro i m h1 h2
    unfold f85_p2
    by_cases hi : i < l.length
    · rw [if_pos (by simp; omega), at_get hi, Option.bind_some, w64_succ (by omega)]
      obtain ⟨v, e1, e2⟩ := ih (i + 1) (if l[i] > m then l[i] else m) (by omega) (by omega)
      refine ⟨v, e1, e2.trans ?_⟩
      rw [drop_cons hi]
      simp only [List.mem_cons, exists_eq_or_imp]
      have : (if l[i] > m then l[i] else m) > 40 ↔ m > 40 ∨ l[i] > 40 := by split <;> omega
      rw [this, or_assoc]
    · rw [if_neg (by simp; omega), List.drop_eq_nil_of_le (by omega)]
      exact ⟨m, rfl, by simp⟩
theorem f85_eq {F : Nat} {l : List Int} (hF : 100 ≤ F) (h0 : 0 < l.length) (hl : l.length ≤ 40) : ∃ v, f85 F l = some v ∧ (v > 40 ↔ ∃ x ∈ l, x > 40) := by
  unfold f85 f85_p0
  rw [if_neg (by simp; omega), Option.bind_some, show at? l 0 = some l[0] from at_get h0, Option.bind_some]
  obtain ⟨v, e1, e2⟩ := f85_p2_eq (F := F) hl F 1 l[0] (by omega) (by omega)
  rw [show f85_p2 F l F l[0] 1 = some v from e1, Option.bind_some]
  refine ⟨v, rfl, e2.trans ?_⟩
  have e : l = l[0] :: l.drop 1 := by have := drop_cons h0; rwa [List.drop_zero] at this
  constructor
  · rintro (h | ⟨x, hx, h⟩)
    · exact ⟨l[0], List.getElem_mem h0, h⟩
    · exact ⟨x, List.mem_of_mem_drop hx, h⟩
  · rintro ⟨x, hx, h⟩
    rw [e] at hx
    rcases List.mem_cons.1 hx with rfl | hx
    · exact .inl h
    · exact .inr ⟨x, hx, h⟩

theorem f77_eq {F : Nat} {a b : List Int} (hF : 100 ≤ F) (hb : b.length ≤ 40) : f77 F a b = some (if stk a b = 0 then (a, b, 0) else ([], [], stk a b)) := by
  unfold f77 stk
  rw [f26_eq (by omega), Option.bind_some]
  by_cases h1 : ck a = 0
  · obtain ⟨h0, h5, _⟩ := ck_zero h1
    rw [if_neg (by simp [h1]), if_pos h1]
    by_cases h2 : b.length = a.length
    · rw [if_neg (by simp [h2]), if_pos h2]
      obtain ⟨v, e1, e2⟩ := f92_eq hF (l := b) (by omega) hb
      obtain ⟨u, e3, e4⟩ := f85_eq hF (l := b) (by omega) hb
      rw [e1, Option.bind_some]
      by_cases h3 : v < 0
      · have hs : ¬ stOk b = true := fun h => by
          obtain ⟨x, hx, hx0⟩ := e2.1 h3
          have := stOk_iff.1 h x hx
          omega
        rw [if_pos (by simpa using h3), if_neg hs, if_neg (by decide)]
      · rw [if_neg (by simpa using h3), e3, Option.bind_some]
        by_cases h4 : u > 40
        · have hs : ¬ stOk b = true := fun h => by
            obtain ⟨x, hx, hx0⟩ := e4.1 h4
            have := stOk_iff.1 h x hx
            omega
          rw [if_pos (by simpa using h4), if_neg hs, if_neg (by decide)]
        · have hs : stOk b = true := stOk_iff.2 fun x hx => by
            have g1 : ¬ x < 0 := fun h => h3 (e2.2 ⟨x, hx, h⟩)
            have g2 : ¬ x > 40 := fun h => h4 (e4.2 ⟨x, hx, h⟩)
            omega
          rw [if_neg (by simpa using h4), if_pos hs, if_pos rfl]
    · rw [if_pos (by simp; omega), if_neg h2, if_neg (by decide)]
  · rw [if_pos (by simpa using h1), if_neg h1, if_neg h1]

/-- The error of a store and of a number. -/
def od (a b : List Int) (n : Int) : Int := if stk a b = 0 then (if 0 ≤ n ∧ n ≤ 1000 then 0 else 1) else stk a b
theorem od_zero {a b : List Int} {n : Int} (h : od a b n = 0) : stk a b = 0 ∧ 0 ≤ n ∧ n ≤ 1000 := by
  unfold od at h
  split at h
  · rename_i h1
    split at h
    · rename_i h2; exact ⟨h1, h2⟩
    · cases h
  · rename_i h1; exact absurd h h1
theorem f73_eq {F : Nat} {a b : List Int} {n : Int} (hF : 100 ≤ F) (hb : b.length ≤ 40) : f73 F a b n = some (if stk a b = 0 then (a, b, od a b n) else ([], [], od a b n)) := by
  unfold f73 f73_p0 od
  rw [f77_eq hF hb, Option.bind_some]
  by_cases h : stk a b = 0
  · simp only [if_pos h, beq_self_eq_true, if_true, f67_eq, Option.bind_some, decide_eq_true_eq]
    by_cases hn : 0 ≤ n ∧ n ≤ 1000
    · rw [if_pos hn, if_pos hn, Option.bind_some]
    · rw [if_neg hn, if_neg hn, Option.bind_some]
  · simp only [if_neg h, beq_iff_eq, if_false]
theorem stk_zero {a b : List Int} (h : stk a b = 0) : ck a = 0 ∧ b.length = a.length ∧ ∀ x ∈ b, 0 ≤ x ∧ x ≤ 40 := by
  unfold stk at h
  split at h
  · rename_i h1
    split at h
    · rename_i h2
      split at h
      · rename_i h3; exact ⟨h1, h2, stOk_iff.1 h3⟩
      · cases h
    · cases h
  · rename_i h1; exact absurd h h1

end Go.Gh.Pack
