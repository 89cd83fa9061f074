/- What is needed of the plain texts. -/
import Derived.Test.YtkjlgbnbpeijbaaPack11N0
namespace Go.Gh.Pack
set_option linter.unusedVariables false
set_option linter.unusedSimpArgs false

section
theorem w64_in {n : Int} (h : -9223372036854775808 ≤ n ∧ n < 9223372036854775808) : w64 n = n := by
  unfold w64 IntKind.wrap
  simp [IntKind.bits, IntKind.signed]
  split <;> omega
theorem w64_nat {n : Nat} (h : n < 1000000000) : w64 (n : Int) = n := w64_in (by omega)
theorem w64_succ {n : Nat} (h : n < 1000000000) : w64 ((n : Int) + 1) = ((n + 1 : Nat) : Int) := by rw [w64_in (by omega)]; omega
theorem at_of {α : Type} {l : List α} {i : Nat} {x : α} (h : l[i]? = some x) : at? l ((i : Nat) : Int) = some x := by
  unfold at?; simp [h]
theorem at_get {α : Type} {l : List α} {i : Nat} (h : i < l.length) : at? l ((i : Nat) : Int) = some l[i] := at_of (List.getElem?_eq_getElem h)
theorem req_pos {α : Type} {p : Prop} [Decidable p] {x : Option α} (h : p) : req p x = x := by unfold req; rw [if_pos h]
theorem take0 {α : Type} (l : List α) : List.drop 0 (List.take (0 + l.length) l) = l := by simp
theorem drop_cons {α : Type} {l : List α} {i : Nat} (h : i < l.length) : l.drop i = l[i] :: l.drop (i + 1) := List.drop_eq_getElem_cons h
theorem f67_eq {F : Nat} {x a b : Int} : f67 F x a b = some (decide (a ≤ x ∧ x ≤ b)) := by
  unfold f67
  by_cases h : a ≤ x <;> simp [h]
theorem f23_p2_eq {F : Nat} {a b : List Int} (hab : a.length = b.length) (ha : a.length ≤ 5000) : ∀ (k i : Nat), i ≤ a.length → a.length < k + i → f23_p2 F a b k i = some (if a.drop i = b.drop i then .c1 else .c0) := by
  intro k
  induction k with
  | zero => intro i _ h; omega
  | succ k ih =>
    intro i h1 h2
    unfold f23_p2
    by_cases hi : i < a.length
    · rw [if_pos (by simp; omega), at_get hi, at_get (by omega : i < b.length), Option.bind_some, Option.bind_some]
      have e : (List.drop i a = List.drop i b) = (a[i] = b[i] ∧ List.drop (i + 1) a = List.drop (i + 1) b) := by rw [drop_cons hi, drop_cons (by omega : i < b.length), List.cons.injEq]
      simp only [e]
      by_cases he : a[i] = b[i]
      · rw [if_neg (by simp [he]), w64_succ (by omega), ih (i + 1) (by omega) (by omega)]
        simp only [he, true_and]
      · rw [if_pos (by simp [he]), if_neg (fun h => he h.1)]
    · rw [if_neg (by simp; omega), List.drop_eq_nil_of_le (by omega), List.drop_eq_nil_of_le (by omega)]
      rfl
theorem f23_eq {F : Nat} {a b : List Int} (ha : a.length < F) (hF : F ≤ 5000) : f23 F a b = some (decide (a = b)) := by
  unfold f23
  by_cases hab : a.length = b.length
  · have h := f23_p2_eq (F := F) hab (by omega) F 0 (by omega) (by omega)
    rw [List.drop_zero, List.drop_zero] at h
    rw [if_neg (by simp [hab]), show f23_p2 F a b F 0 = _ from h, Option.bind_some]
    by_cases he : a = b
    · rw [if_pos he, decide_eq_true he]
    · rw [if_neg he, decide_eq_false he]
  · rw [if_pos (by simp; omega), decide_eq_false (fun h => hab (by rw [h]))]

/- Sizes. -/
def ckL : Int → List Int → Int
  | _, [] => 0
  | p, x :: r => if 1 ≤ x ∧ x ≤ 30 then (if x ≤ p then 7 else ckL x r) else 1
def ck (l : List Int) : Int := if l.length = 0 then 4 else if l.length > 5 then 3 else ckL 0 l
theorem f26_p4_eq {F : Nat} {l : List Int} (hl : l.length ≤ 5) : ∀ (k i : Nat) (p : Int), i ≤ l.length → l.length < k + i →
    ∃ z, f26_p4 F l k p i = some z ∧ (ckL p (l.drop i) ≠ 0 → z = .c0 (ckL p (l.drop i))) ∧ (ckL p (l.drop i) = 0 → z = .c1) := by
  intro k
  induction k with
  | zero => intro i p _ h; omega
  | succ k ih =>
    intro i p h1 h2
    unfold f26_p4
    by_cases hi : i < l.length
    · rw [if_pos (by simp; omega), at_get hi, drop_cons hi]
      simp only [Option.bind_some, f67_eq, decide_eq_true_eq, ckL]
      by_cases hx : 1 ≤ l[i] ∧ l[i] ≤ 30
      · rw [if_pos hx, if_pos hx]
        by_cases hp : l[i] ≤ p
        · rw [if_pos hp, if_pos hp]
          exact ⟨_, rfl, fun _ => rfl, fun h => by cases h⟩
        · rw [if_neg hp, if_neg hp, w64_succ (by omega)]
          exact ih (i + 1) l[i] (by omega) (by omega)
      · rw [if_neg hx, if_neg hx]
        exact ⟨_, rfl, fun _ => rfl, fun h => by cases h⟩
    · rw [if_neg (by simp; omega), List.drop_eq_nil_of_le (by omega)]
      exact ⟨_, rfl, fun h => absurd rfl h, fun _ => rfl⟩
theorem f26_eq {F : Nat} {l : List Int} (hF : 10 ≤ F) : f26 F l = some (ck l) := by
  unfold f26 ck
  by_cases h0 : l.length = 0
  · rw [if_pos (by simp [h0]), if_pos h0]
  · rw [if_neg (by simp; intro h; exact h0 (by simp [h])), if_neg h0]
    by_cases h5 : l.length > 5
    · rw [if_pos (by simp; omega), if_pos h5]
    · rw [if_neg (by simp; omega), if_neg h5]
      obtain ⟨z, e1, e2, e3⟩ := f26_p4_eq (F := F) (l := l) (by omega) F 0 0 (by omega) (by omega)
      rw [List.drop_zero] at e2 e3
      rw [show f26_p4 F l F 0 0 = some z from e1, Option.bind_some]
      by_cases h : ckL 0 l = 0
      · rw [e3 h, h]
      · rw [e2 h]
theorem ckL_all : ∀ (l : List Int) (p : Int), ckL p l = 0 → ∀ x ∈ l, 1 ≤ x ∧ x ≤ 30 ∧ p < x := by
  intro l
  induction l with
  | nil => intro _ _ x hx; cases hx
  | cons y r ih =>
    intro p h x hx
    simp only [ckL] at h
    split at h
    · rename_i hy
      split at h
      · cases h
      · rcases List.mem_cons.1 hx with rfl | hx
        · omega
        · have := ih _ h x hx
          omega
    · cases h
theorem ck_zero {l : List Int} (h : ck l = 0) : 0 < l.length ∧ l.length ≤ 5 ∧ ckL 0 l = 0 := by
  unfold ck at h
  split at h
  · cases h
  · split at h
    · cases h
    · exact ⟨by omega, by omega, h⟩
theorem ck_all {l : List Int} (h : ck l = 0) : ∀ x ∈ l, 1 ≤ x ∧ x ≤ 30 := fun x hx => by
  have := ckL_all _ _ (ck_zero h).2.2 x hx
  omega

/- Stocks. -/
def stOk (l : List Int) : Bool := l.all fun x => decide (0 ≤ x ∧ x ≤ 40)
theorem stOk_iff {l : List Int} : stOk l = true ↔ ∀ x ∈ l, 0 ≤ x ∧ x ≤ 40 := by simp [stOk]
def stk (a b : List Int) : Int := if ck a = 0 then (if b.length = a.length then (if stOk b = true then 0 else 1) else 5) else ck a
theorem f92_p2_eq {F : Nat} {l : List Int} (hl : l.length ≤ 40) : ∀ (k i : Nat) (m : Int), i ≤ l.length → l.length < k + i → ∃ v, f92_p2 F l k m i = some v ∧ (v < 0 ↔ m < 0 ∨ ∃ x ∈ l.drop i, x < 0) := by
  intro k
  induction k with
  | zero => intro i m _ h; omega
  | succ k ih =>
    intro i m h1 h2
    unfold f92_p2
    by_cases hi : i < l.length
    · rw [if_pos (by simp; omega), at_get hi, Option.bind_some, w64_succ (by omega)]
      obtain ⟨v, e1, e2⟩ := ih (i + 1) (if l[i] < m then l[i] else m) (by omega) (by omega)
      refine ⟨v, e1, e2.trans ?_⟩
      rw [drop_cons hi]
      simp only [List.mem_cons, exists_eq_or_imp]
      have : (if l[i] < m then l[i] else m) < 0 ↔ m < 0 ∨ l[i] < 0 := by split <;> omega
      rw [this, or_assoc]
    · rw [if_neg (by simp; omega), List.drop_eq_nil_of_le (by omega)]
      exact ⟨m, rfl, by simp⟩
theorem f92_eq {F : Nat} {l : List Int} (hF : 100 ≤ F) (h0 : 0 < l.length) (hl : l.length ≤ 40) : ∃ v, f92 F l = some v ∧ (v < 0 ↔ ∃ x ∈ l, x < 0) := by
  unfold f92 f92_p0
  rw [if_neg (by simp; omega), Option.bind_some, show at? l 0 = some l[0] from at_get h0, Option.bind_some]
  obtain ⟨v, e1, e2⟩ := f92_p2_eq (F := F) hl F 1 l[0] (by omega) (by omega)
  rw [show f92_p2 F l F l[0] 1 = some v from e1, Option.bind_some]
  refine ⟨v, rfl, e2.trans ?_⟩
  have e : l = l[0] :: l.drop 1 := by have := drop_cons h0; rwa [List.drop_zero] at this
  constructor
  · rintro (h | ⟨x, hx, h⟩)
    · exact ⟨l[0], List.getElem_mem h0, h⟩
    · exact ⟨x, List.mem_of_mem_drop hx, h⟩
  · rintro ⟨x, hx, h⟩
    rw [e] at hx
    rcases List.mem_cons.1 hx with rfl | hx
    · exact .inl h
    · exact .inr ⟨x, hx, h⟩
theorem f85_p2_eq {F : Nat} {l : List Int} (hl : l.length ≤ 40) : ∀ (k i : Nat) (m : Int), i ≤ l.length → l.length < k + i → ∃ v, f85_p2 F l k m i = some v ∧ (v > 40 ↔ m > 40 ∨ ∃ x ∈ l.drop i, x > 40) := by
  intro k
  induction k with
  | zero => intro i m _ h; omega
  | succ k ih =>
    intro i m h1 h2
    unfold f85_p2
    by_cases hi : i < l.length
    · rw [if_pos (by simp; omega), at_get hi, Option.bind_some, w64_succ (by omega)]
      obtain ⟨v, e1, e2⟩ := ih (i + 1) (if l[i] > m then l[i] else m) (by omega) (by omega)
      refine ⟨v, e1, e2.trans ?_⟩
      rw [drop_cons hi]
      simp only [List.mem_cons, exists_eq_or_imp]
      have : (if l[i] > m then l[i] else m) > 40 ↔ m > 40 ∨ l[i] > 40 := by split <;> omega
      rw [this, or_assoc]
    · rw [if_neg (by simp; omega), List.drop_eq_nil_of_le (by omega)]
      exact ⟨m, rfl, by simp⟩
theorem f85_eq {F : Nat} {l : List Int} (hF : 100 ≤ F) (h0 : 0 < l.length) (hl : l.length ≤ 40) : ∃ v, f85 F l = some v ∧ (v > 40 ↔ ∃ x ∈ l, x > 40) := by
  unfold f85 f85_p0
  rw [if_neg (by simp; omega), Option.bind_some, show at? l 0 = some l[0] from at_get h0, Option.bind_some]
  obtain ⟨v, e1, e2⟩ := f85_p2_eq (F := F) hl F 1 l[0] (by omega) (by omega)
  rw [show f85_p2 F l F l[0] 1 = some v from e1, Option.bind_some]
  refine ⟨v, rfl, e2.trans ?_⟩
  have e : l = l[0] :: l.drop 1 := by have := drop_cons h0; rwa [List.drop_zero] at this
  constructor
  · rintro (h | ⟨x, hx, h⟩)
    · exact ⟨l[0], List.getElem_mem h0, h⟩
    · exact ⟨x, List.mem_of_mem_drop hx, h⟩
  · rintro ⟨x, hx, h⟩
    rw [e] at hx
    rcases List.mem_cons.1 hx with rfl | hx
    · exact .inl h
    · exact .inr ⟨x, hx, h⟩
theorem f77_eq {F : Nat} {a b : List Int} (hF : 100 ≤ F) (hb : b.length ≤ 40) : f77 F a b = some (if stk a b = 0 then (a, b, 0) else ([], [], stk a b)) := by
  unfold f77 stk
  rw [f26_eq (by omega), Option.bind_some]
  by_cases h1 : ck a = 0
  · obtain ⟨h0, h5, _⟩ := ck_zero h1
    rw [if_neg (by simp [h1]), if_pos h1]
    by_cases h2 : b.length = a.length
    · rw [if_neg (by simp [h2]), if_pos h2]
      obtain ⟨v, e1, e2⟩ := f92_eq hF (l := b) (by omega) hb
      obtain ⟨u, e3, e4⟩ := f85_eq hF (l := b) (by omega) hb
      rw [e1, Option.bind_some]
      by_cases h3 : v < 0
      · have hs : ¬ stOk b = true := fun h => by
          obtain ⟨x, hx, hx0⟩ := e2.1 h3
          have := stOk_iff.1 h x hx
          omega
        rw [if_pos (by simpa using h3), if_neg hs, if_neg (by decide)]
      · rw [if_neg (by simpa using h3), e3, Option.bind_some]
        by_cases h4 : u > 40
        · have hs : ¬ stOk b = true := fun h => by
            obtain ⟨x, hx, hx0⟩ := e4.1 h4
            have := stOk_iff.1 h x hx
            omega
          rw [if_pos (by simpa using h4), if_neg hs, if_neg (by decide)]
        · have hs : stOk b = true := stOk_iff.2 fun x hx => by
            have g1 : ¬ x < 0 := fun h => h3 (e2.2 ⟨x, hx, h⟩)
            have g2 : ¬ x > 40 := fun h => h4 (e4.2 ⟨x, hx, h⟩)
            omega
          rw [if_neg (by simpa using h4), if_pos hs, if_pos rfl]
    · rw [if_pos (by simp; omega), if_neg h2, if_neg (by decide)]
  · rw [if_pos (by simpa using h1), if_neg h1, if_neg h1]
/-- The error of a store and of a number. -/
def od (a b : List Int) (n : Int) : Int := if stk a b = 0 then (if 0 ≤ n ∧ n ≤ 1000 then 0 else 1) else stk a b
theorem od_zero {a b : List Int} {n : Int} (h : od a b n = 0) : stk a b = 0 ∧ 0 ≤ n ∧ n ≤ 1000 := by
  unfold od at h
  split at h
  · rename_i h1
    split at h
    · rename_i h2; exact ⟨h1, h2⟩
    · cases h
  · rename_i h1; exact absurd h h1
theorem f73_eq {F : Nat} {a b : List Int} {n : Int} (hF : 100 ≤ F) (hb : b.length ≤ 40) : f73 F a b n = some (if stk a b = 0 then (a, b, od a b n) else ([], [], od a b n)) := by
  unfold f73 f73_p0 od
  rw [f77_eq hF hb, Option.bind_some]
  by_cases h : stk a b = 0
  · simp only [if_pos h, beq_self_eq_true, if_true, f67_eq, Option.bind_some, decide_eq_true_eq]
    by_cases hn : 0 ≤ n ∧ n ≤ 1000
    · rw [if_pos hn, if_pos hn, Option.bind_some]
    · rw [if_neg hn, if_neg hn, Option.bind_some]
  · simp only [if_neg h, beq_iff_eq, if_false]
theorem stk_zero {a b : List Int} (h : stk a b = 0) : ck a = 0 ∧ b.length = a.length ∧ ∀ x ∈ b, 0 ≤ x ∧ x ≤ 40 := by
  unfold stk at h
  split at h
  · rename_i h1
    split at h
    · rename_i h2
      split at h
      · rename_i h3; exact ⟨h1, h2, stOk_iff.1 h3⟩
      · cases h
    · cases h
  · rename_i h1; exact absurd h h1
end
section
/-- At most c - 1 packets of s, and what g tells of the rest. -/
def ws (s : Nat) (g : Nat → Int) : Nat → Nat → Int
  | 0, _ => 0
  | c + 1, x => g x + (if s ≤ x then ws s g c (x - s) else 0)
theorem ws_last {s : Nat} {g : Nat → Int} : ∀ c x : Nat, ws s g (c + 1) x = ws s g c x + (if c * s ≤ x then g (x - c * s) else 0)
  | 0, x => by simp [ws]
  | c + 1, x => by
    have e : (c + 1) * s = c * s + s := by rw [Nat.add_mul, Nat.one_mul]
    have d1 : ws s g (c + 1 + 1) x = g x + (if s ≤ x then ws s g (c + 1) (x - s) else 0) := rfl
    have d2 : ws s g (c + 1) x = g x + (if s ≤ x then ws s g c (x - s) else 0) := rfl
    rw [d1, d2, e]
    by_cases h : s ≤ x
    · rw [if_pos h, if_pos h, ws_last c (x - s)]
      by_cases h2 : c * s ≤ x - s
      · rw [if_pos h2, if_pos (by omega), show x - s - c * s = x - (c * s + s) by omega]; omega
      · rw [if_neg h2, if_neg (by omega)]; omega
    · rw [if_neg h, if_neg h, if_neg (by omega)]; omega
theorem ws_step {s : Nat} {g : Nat → Int} {c x : Nat} (h : s ≤ x) : ws s g (c + 1) x = g x + ws s g (c + 1) (x - s) - (if (c + 1) * s ≤ x then g (x - (c + 1) * s) else 0) := by
  have e : (c + 1) * s = c * s + s := by rw [Nat.add_mul, Nat.one_mul]
  rw [ws_last c (x - s), ws, if_pos h, e]
  by_cases h2 : c * s ≤ x - s
  · rw [if_pos h2, if_pos (by omega), show x - s - c * s = x - (c * s + s) by omega]; omega
  · rw [if_neg h2, if_neg (by omega)]; omega
theorem ws_small {s : Nat} {g : Nat → Int} {c x : Nat} (h : x < s) : ws s g (c + 1) x = g x := by rw [ws, if_neg (by omega)]; omega
theorem ws_bd {s : Nat} {g : Nat → Int} {B : Int} (hg : ∀ y, 0 ≤ g y ∧ g y ≤ B) : ∀ c x : Nat, 0 ≤ ws s g c x ∧ ws s g c x ≤ c * B
  | 0, x => by simp [ws]
  | c + 1, x => by
    have h1 := hg x
    have h2 := ws_bd (s := s) hg c (x - s)
    have h3 := hg 0
    have e : ((c + 1 : Nat) : Int) * B = c * B + B := by rw [Int.natCast_add, Int.add_mul]; simp
    have h4 : 0 ≤ (c : Int) * B := Int.mul_nonneg (by omega) (by omega)
    rw [ws, e]
    split <;> omega
def tab (N : Nat) (g : Nat → Int) : List Int := (List.range N).map g
theorem tab_len (N : Nat) (g : Nat → Int) : (tab N g).length = N := by simp [tab]
theorem tab_get {N i : Nat} (g : Nat → Int) (h : i < N) : (tab N g)[i]? = some (g i) := by
  unfold tab
  rw [List.getElem?_map, List.getElem?_range h]; rfl
theorem tab_at {N i : Nat} (g : Nat → Int) (h : i < N) : at? (tab N g) (i : Int) = some (g i) := at_of (tab_get g h)
theorem tab_congr {N : Nat} {g h : Nat → Int} (e : ∀ y, y < N → g y = h y) : tab N g = tab N h :=
  List.map_congr_left fun y hy => e y (List.mem_range.1 hy)
theorem tab_set {N i : Nat} (g : Nat → Int) (v : Int) : (tab N g).set i v = tab N (fun y => if y = i then v else g y) := by
  apply List.ext_getElem?
  intro k
  by_cases hk : k < N
  · rw [tab_get _ hk, List.getElem?_set, tab_len]
    by_cases h : i = k
    · subst h; simp [hk]
    · rw [if_neg h, tab_get _ hk, if_neg (fun e => h e.symm)]
  · rw [List.getElem?_eq_none (by simp [tab_len]; omega), List.getElem?_eq_none (by simp [tab_len]; omega)]
theorem tab_zero (N : Nat) : List.replicate N (0 : Int) = tab N (fun _ => 0) := by
  apply List.ext_getElem?
  intro k
  by_cases hk : k < N
  · rw [tab_get _ hk, List.getElem?_replicate, if_pos hk]
  · rw [List.getElem?_eq_none (by simp; omega), List.getElem?_eq_none (by simp [tab_len]; omega)]
theorem take_tab (N : Nat) (g : Nat → Int) : List.drop 0 (List.take (0 + N) (tab N g)) = tab N g := by
  rw [List.drop_zero, Nat.zero_add, List.take_of_length_le (by rw [tab_len]; exact Nat.le_refl _)]
def wf : (Nat → Int) → List Int → List Int → Nat → Int
  | g, s :: a, c :: b => wf (ws s.toNat g (c.toNat + 1)) a b
  | g, [], _ => g
  | g, _, [] => g
def g0 : Nat → Int := fun y => if y = 0 then 1 else 0
def W (a b : List Int) : Nat → Int := wf g0 a b
theorem f47m_eq {F : Nat} {l : List Int} (hl : l.length ≤ 5000) : f47m F l = some l := by
  unfold f47m
  cases l with
  | nil => rfl
  | cons x r =>
    simp only [nilm, f47, Option.isNone_some, Option.getD_some]
    rw [if_neg (by decide), req_pos (by simp at hl ⊢; omega)]
    simp
theorem f47_1m_eq {F : Nat} {l : List Int} (hl : l.length ≤ 5000) : f47_1m F l = some l := by
  unfold f47_1m
  cases l with
  | nil => rfl
  | cons x r =>
    simp only [nilm, f47_1, Option.isNone_some, Option.getD_some]
    rw [if_neg (by decide), req_pos (by simp at hl ⊢; omega)]
    simp
theorem cs_cast {c s : Nat} (hs : 1 ≤ s ∧ s ≤ 30) (hc : c ≤ 41) : w64 ((c : Int) * s) = ((c * s : Nat) : Int) ∧ c * s ≤ 1230 := by
  have h : c * s ≤ 41 * 30 := Nat.mul_le_mul hc hs.2
  have e : (c : Int) * s = ((c * s : Nat) : Int) := by rw [Int.natCast_mul]
  refine ⟨?_, by omega⟩
  rw [e, w64_in (by omega)]
theorem f74_p5_eq {F : Nat} {a b x36 : List Int} {g : Nat → Int} {s c i : Nat} (hs : 1 ≤ s ∧ s ≤ 30) (hc : c ≤ 40) (hb : b[i]? = some (c : Int)) (hx : x36.length = 1001) (hg : ∀ y, 0 ≤ g y ∧ g y ≤ 115856201) :
    ∀ (k x : Nat) (h : Nat → Int), s ≤ x → x ≤ 1001 → 1001 < k + x → (∀ y, h y = if y < x then ws s g (c + 1) y else g y) →
    f74_p5_1 F (tab 1001 g) i s x36 a b k x (tab 1001 h) = some (tab 1001 (ws s g (c + 1))) := by
  intro k
  induction k with
  | zero => intro x h _ h1 h2; omega
  | succ k ih =>
    intro x h h0 h1 h2 hh
    unfold f74_p5_1
    by_cases hx1 : x ≤ 1000
    · have hgx := hg x
      have hw := ws_bd (s := s) hg (c + 1) (x - s)
      have hw' : ws s g (c + 1) (x - s) ≤ 41 * 115856201 := by
        have : ((c + 1 : Nat) : Int) * 115856201 ≤ 41 * 115856201 := Int.mul_le_mul_of_nonneg_right (by omega) (by decide)
        omega
      have e1 : h x = g x := by rw [hh, if_neg (by omega)]
      have e2 : h (x - s) = ws s g (c + 1) (x - s) := by rw [hh, if_pos (by omega)]
      have ex : w64 ((x : Int) - s) = ((x - s : Nat) : Int) := by rw [w64_in (by omega)]; omega
      have hcs := cs_cast (c := c + 1) hs (by omega)
      rw [if_pos (by simp; omega), req_pos (by rw [hx]; omega), Int.toNat_natCast, Nat.zero_add, tab_get _ (by omega), Option.bind_some, ex, req_pos (by rw [hx]; omega), Int.toNat_natCast, Nat.zero_add, tab_get _ (by omega), Option.bind_some, req_pos (by rw [tab_len]; omega), at_of hb, Option.bind_some, e1, e2]
      have hstep := ws_step (g := g) (c := c) h0
      have fin : f74_p8_5 F (tab 1001 g) i s x36 x c a (tab 1001 h) (g x) (ws s g (c + 1) (x - s)) b = some (tab 1001 (fun y => if y = x then ws s g (c + 1) x else h y)) := by
        unfold f74_p8_5
        have e3 : w64 ((x : Int) - w64 (w64 ((c : Int) + 1) * s)) = (x : Int) - (((c + 1) * s : Nat) : Int) := by
          rw [w64_succ (by omega), hcs.1, w64_in (by omega)]
        rw [e3, Int.toNat_natCast, Nat.zero_add, w64_in (n := g x + ws s g (c + 1) (x - s)) (by omega), tab_set]
        clear e3 hcs
        generalize (c + 1) * s = q at *
        by_cases hf : q ≤ x
        · have hgf := hg (x - q)
          rw [if_pos hf] at hstep
          rw [if_pos (by simp; omega), req_pos (by rw [hx]; omega), tab_get _ (by omega), Option.bind_some, show (x : Int) - ((q : Nat) : Int) = ((x - q : Nat) : Int) by omega, tab_at _ (by omega), Option.bind_some, req_pos (by rw [tab_len]; omega), tab_set, if_pos rfl]
          refine congrArg some (tab_congr fun y _ => ?_)
          by_cases hy : y = x
          · rw [if_pos hy, if_pos hy, w64_in (by omega)]; omega
          · rw [if_neg hy, if_neg hy, if_neg hy]
        · rw [if_neg hf] at hstep
          rw [if_neg (by simp; omega)]
          refine congrArg some (tab_congr fun y _ => ?_)
          by_cases hy : y = x
          · rw [if_pos hy, if_pos hy]; omega
          · rw [if_neg hy, if_neg hy]
      rw [fin, Option.bind_some, w64_succ (by omega)]
      refine ih (x + 1) _ (by omega) (by omega) (by omega) fun y => ?_
      by_cases hy : y = x
      · subst hy; rw [if_pos rfl, if_pos (by omega)]
      · rw [if_neg hy, hh]
        by_cases hyx : y < x
        · rw [if_pos hyx, if_pos (by omega)]
        · rw [if_neg hyx, if_neg (by omega)]
    · rw [if_neg (by simp; omega)]
      refine congrArg some (tab_congr fun y hy => ?_)
      rw [hh, if_pos (by omega)]
theorem pow41 {i : Nat} (h : i ≤ 5) : (0 : Int) ≤ 41 ^ i ∧ (41 : Int) ^ i ≤ 115856201 := by
  match i, h with
  | 0, _ => decide
  | 1, _ => decide
  | 2, _ => decide
  | 3, _ => decide
  | 4, _ => decide
  | 5, _ => decide
theorem ws_pow {s c i : Nat} {g : Nat → Int} (hc : c ≤ 40) (hg : ∀ y, 0 ≤ g y ∧ g y ≤ 41 ^ i) (y : Nat) : 0 ≤ ws s g (c + 1) y ∧ ws s g (c + 1) y ≤ 41 ^ (i + 1) := by
  have h := ws_bd (s := s) hg (c + 1) y
  have h0 := hg 0
  have h1 : ((c + 1 : Nat) : Int) * 41 ^ i ≤ 41 * 41 ^ i := Int.mul_le_mul_of_nonneg_right (by omega) (by omega)
  rw [Int.pow_succ, Int.mul_comm]
  omega
structure Good (a b : List Int) : Prop where
  len : b.length = a.length
  five : a.length ≤ 5
  sz : ∀ x ∈ a, 1 ≤ x ∧ x ≤ 30
  st : ∀ x ∈ b, 0 ≤ x ∧ x ≤ 40
theorem f74_p1_eq {F : Nat} (hF : 2100 ≤ F) {a b : List Int} (hab : Good a b) : ∀ (k i : Nat) (g : Nat → Int), i ≤ a.length → a.length < k + i → (∀ y, 0 ≤ g y ∧ g y ≤ 41 ^ i) →
    f74_p1 F a b k (tab 1001 g) i = some (tab 1001 (wf g (a.drop i) (b.drop i))) := by
  have h5 := hab.five
  have hl := hab.len
  intro k
  induction k with
  | zero => intro i g _ h; omega
  | succ k ih =>
    intro i g h1 h2 hg
    unfold f74_p1
    by_cases hi : i < a.length
    · have ha := hab.sz _ (List.getElem_mem hi)
      have hbi : i < b.length := by omega
      have hb := hab.st _ (List.getElem_mem hbi)
      obtain ⟨s, es⟩ : ∃ s : Nat, a[i] = s := ⟨a[i].toNat, by omega⟩
      obtain ⟨c, ec⟩ : ∃ c : Nat, b[i] = c := ⟨b[i].toNat, by omega⟩
      have hp := pow41 (i := i) (by omega)
      have hg' : ∀ y, 0 ≤ g y ∧ g y ≤ 115856201 := fun y => by have := hg y; omega
      rw [if_pos (by simp; omega), at_get hi, Option.bind_some, f47m_eq (by rw [tab_len]; omega), Option.bind_some, es]
      rw [f74_p5_eq (s := s) (c := c) (by omega) (by omega) (by rw [List.getElem?_eq_getElem hbi, ec]) (tab_len ..) hg' F s g (by omega) (by omega) (by omega) (fun y => by
        by_cases h : y < s
        · rw [if_pos h, ws_small h]
        · rw [if_neg h]), Option.bind_some, req_pos (by rw [tab_len, tab_len]; omega), tab_len, take_tab, w64_succ (by omega)]
      rw [ih (i + 1) _ (by omega) (by omega) (ws_pow (by omega) hg), drop_cons hi, drop_cons hbi, es, ec]
      rfl
    · rw [if_neg (by simp; omega), List.drop_eq_nil_of_le (by omega)]
      rfl
theorem f74_eq {F : Nat} (hF : 2100 ≤ F) {a b : List Int} (hab : Good a b) : f74 F a b = some (tab 1001 (W a b)) := by
  have e := f74_p1_eq hF hab F 0 g0 (by omega) (by have := hab.five; omega) (fun y => by unfold g0; split <;> decide)
  rw [List.drop_zero, List.drop_zero] at e
  unfold f74
  have e2 : (List.replicate 1001 (0 : Int)).set 0 1 = tab 1001 g0 := by
    rw [tab_zero, tab_set]; rfl
  rw [req_pos (by decide), req_pos (by rw [List.length_replicate]; decide), e2, req_pos (by rw [tab_len]; decide), show List.drop 0 (List.take 1001 (tab 1001 g0)) = tab 1001 g0 from take_tab 1001 g0, show f74_p1 F a b F (tab 1001 g0) 0 = _ from e, Option.bind_some]
  rfl

/- The reference. -/
end
section
theorem Good.of {a b : List Int} (h : stk a b = 0) : Good a b := by
  obtain ⟨h1, h2, h3⟩ := stk_zero h
  exact ⟨h2, (ck_zero h1).2.1, ck_all h1, h3⟩
theorem f36_eq {F : Nat} (hF : 2100 ≤ F) {a b : List Int} {n : Int} (hb : b.length ≤ 40) : f36 F a b n = some (if od a b n = 0 then (W a b n.toNat, 0) else (0, od a b n)) := by
  unfold f36
  rw [f73_eq (by omega) hb, Option.bind_some]
  by_cases h : od a b n = 0
  · obtain ⟨h1, h2, h3⟩ := od_zero h
    have hab := Good.of h1
    obtain ⟨m, rfl⟩ : ∃ m : Nat, n = m := ⟨n.toNat, by omega⟩
    rw [if_pos h]
    simp only [if_pos h1, h, bne_self_eq_false, Bool.false_eq_true, if_false]
    rw [f74_eq hF hab, Option.bind_some, tab_at _ (by omega), Option.bind_some, Int.toNat_natCast]
  · rw [if_neg h]
    by_cases hs : stk a b = 0 <;> simp [hs, h]
/-- The numbers of which g tells more than nothing. -/
def pos (g : Nat → Int) : Nat → Nat → List Int
  | _, 0 => []
  | i, m + 1 => if g i > 0 then (i : Int) :: pos g (i + 1) m else pos g (i + 1) m
theorem f78_1_p1_eq {F : Nat} {g : Nat → Int} : ∀ (k i : Nat) (acc : List Int), i ≤ 1001 → 1001 < k + i → acc.length ≤ i → f78_1_p1 F (tab 1001 g) k i acc = some (.c1 (acc ++ pos g i (1001 - i))) := by
  intro k
  induction k with
  | zero => intro i acc _ h; omega
  | succ k ih =>
    intro i acc h1 h2 h3
    unfold f78_1_p1
    rw [tab_len]
    by_cases hi : i < 1001
    · rw [if_pos (by simp; omega), tab_at _ hi, Option.bind_some, w64_succ (by omega), show 1001 - i = (1001 - (i + 1)) + 1 by omega, pos]
      by_cases h : g i > 0
      · rw [if_pos (by simpa using h), f79, req_pos (by simp; omega), Option.bind_some, if_pos h]
        show f78_1_p1 F (tab 1001 g) k ((i + 1 : Nat) : Int) _ = _
        rw [ih (i + 1) _ (by omega) (by omega) (by simp; omega)]
        simp
      · rw [if_neg (by simpa using h), if_neg h, ih (i + 1) _ (by omega) (by omega) (by omega)]
    · rw [if_neg (by simp; omega), show 1001 - i = 0 by omega]
      simp [pos]
def tots (a b : List Int) : List Int := if stk a b = 0 then pos (W a b) 0 1001 else []
theorem f38_eq {F : Nat} (hF : 2100 ≤ F) {a b : List Int} (hb : b.length ≤ 40) : f38 F a b = some (tots a b, stk a b) := by
  unfold f38 tots
  rw [f77_eq (by omega) hb, Option.bind_some]
  by_cases h : stk a b = 0
  · simp only [if_pos h, bne_self_eq_false, Bool.false_eq_true, if_false]
    have e := f78_1_p1_eq (F := F) (g := W a b) F 0 [] (by omega) (by omega) (by simp)
    unfold f78_1
    rw [f74_eq hF (Good.of h), Option.bind_some, show f78_1_p1 F (tab 1001 (W a b)) F 0 [] = _ from e, Option.bind_some, Option.bind_some, List.nil_append, take0, h]
  · simp only [if_neg h, bne_iff_ne, ne_eq, not_false_eq_true, if_true]
    rw [if_pos h]
def nxt (g : Nat → Int) (n : Int) : Nat → Nat → Option Int
  | _, 0 => none
  | i, m + 1 => if g i > 0 ∧ n ≤ i then some i else nxt g n (i + 1) m
theorem f78_p1_eq {F : Nat} {g : Nat → Int} {n : Int} : ∀ (k i : Nat), i ≤ 1001 → 1001 < k + i → f78_p1 F (tab 1001 g) n k i 12 0 = some (match nxt g n i (1001 - i) with | some v => .c0 0 v | none => .c1 12 0) := by
  intro k
  induction k with
  | zero => intro i _ h; omega
  | succ k ih =>
    intro i h1 h2
    unfold f78_p1
    rw [tab_len]
    by_cases hi : i < 1001
    · rw [if_pos (by simp; omega), tab_at _ hi, Option.bind_some, w64_succ (by omega), show 1001 - i = (1001 - (i + 1)) + 1 by omega, nxt]
      by_cases h : g i > 0
      · rw [if_pos (by simpa using h), f80, f80_p0]
        by_cases h3 : (i : Int) ≥ n
        · rw [if_pos (by simpa using h3), if_pos ⟨h, h3⟩]
          rfl
        · rw [if_neg (by simpa using h3), if_neg (fun e => h3 e.2)]
          exact ih (i + 1) (by omega) (by omega)
      · rw [if_neg (by simpa using h), if_neg (fun e => h e.1), ih (i + 1) (by omega) (by omega)]
    · rw [if_neg (by simp; omega), show 1001 - i = 0 by omega]
      rfl
/-- What Least answers. -/
def lea (a b : List Int) (n : Int) : Int × Int := if od a b n = 0 then (match nxt (W a b) n 0 1001 with | some v => (v, 0) | none => (0, 12)) else (0, od a b n)
theorem f40_eq {F : Nat} (hF : 2100 ≤ F) {a b : List Int} {n : Int} (hb : b.length ≤ 40) : f40 F a b n = some (lea a b n) := by
  unfold f40 lea
  rw [f73_eq (by omega) hb, Option.bind_some]
  by_cases h : od a b n = 0
  · have h1 := (od_zero h).1
    simp only [if_pos h1, h, bne_self_eq_false, Bool.false_eq_true, if_false, if_true]
    have e := f78_p1_eq (F := F) (g := W a b) (n := n) F 0 (by omega) (by omega)
    unfold f78
    rw [f74_eq hF (Good.of h1), Option.bind_some, show f78_p1 F (tab 1001 (W a b)) n F 0 12 0 = _ from e, Option.bind_some]
    cases nxt (W a b) n 0 (1001 - 0) <;> rfl
  · rw [if_neg h]
    by_cases hs : stk a b = 0 <;> simp [hs, h]
theorem Good.setZero {a b : List Int} (h : Good a b) (i : Nat) : Good a (b.set i 0) := ⟨by simpa using h.len, h.five, h.sz, fun x hx => by
  rcases List.mem_or_eq_of_mem_set hx with hx | rfl
  · exact h.st x hx
  · decide⟩
/-- What Span goes through. -/
def spl (g : Nat → Int) (s n : Nat) : Nat → Nat → Int → Int → Int → Int × Int × Int
  | 0, _, p, q, e => (p, q, e)
  | m + 1, j, p, q, e => if j * s ≤ n then (if g (n - j * s) = 0 then spl g s n m (j + 1) p q e else if e = 0 then spl g s n m (j + 1) p j 0 else spl g s n m (j + 1) j j 0) else (p, q, e)
theorem f42_p4_eq {F n : Nat} (hn : n ≤ 1000) {a b : List Int} {g : Nat → Int} {i s c : Nat} (hs : 1 ≤ s ∧ s ≤ 30) (hc : c ≤ 40) (ha : a[i]? = some (s : Int)) :
    ∀ (k j : Nat) (p q e : Int), j ≤ c + 1 → c + 1 < k + j → f42_p4 F n i (tab 1001 g) c a b k p q e j = some (spl g s n (c + 1 - j) j p q e) := by
  intro k
  induction k with
  | zero => intro j p q e _ h; omega
  | succ k ih =>
    intro j p q e h1 h2
    unfold f42_p4
    rw [w64_succ (by omega)]
    by_cases hj : j ≤ c
    · have hcs := cs_cast (c := j) hs (by omega)
      rw [if_pos (by simp; omega), at_of ha, Option.bind_some, hcs.1, show c + 1 - j = (c + 1 - (j + 1)) + 1 by omega, spl]
      by_cases hx : j * s ≤ n
      · rw [show w64 ((n : Int) - ((j * s : Nat) : Int)) = ((n - j * s : Nat) : Int) by rw [w64_in (by omega)]; omega]
        rw [if_neg (by simp only [decide_eq_true_eq]; omega), if_pos hx, tab_at _ (by omega), Option.bind_some, w64_succ (by omega)]
        unfold f42_p10
        generalize g (n - j * s) = z at *
        by_cases h0 : z = 0
        · subst h0
          simp only [beq_self_eq_true, if_true]
          exact ih (j + 1) _ _ _ (by omega) (by omega)
        · have d1 : (z == 0) = false := by simpa using h0
          simp only [d1, if_neg h0, Bool.false_eq_true, if_false]
          by_cases he : e = 0
          · subst he
            simp only [bne_self_eq_false, Bool.false_eq_true, if_false, if_true, Option.bind_some]
            exact ih (j + 1) _ _ _ (by omega) (by omega)
          · have d2 : (e != 0) = true := by simpa using he
            simp only [d2, if_neg he, if_true, Option.bind_some]
            exact ih (j + 1) _ _ _ (by omega) (by omega)
      · rw [show w64 ((n : Int) - ((j * s : Nat) : Int)) = (n : Int) - ((j * s : Nat) : Int) by rw [w64_in (by omega)]]
        rw [if_pos (by simp only [decide_eq_true_eq]; omega), if_neg hx]
    · rw [if_neg (by simp; omega), show c + 1 - j = 0 by omega]
      rfl
/-- What Span answers. -/
def spn (a b : List Int) (n i : Int) : Int × Int × Int :=
  if od a b n = 0 then (if 0 ≤ i ∧ i ≤ (a.length : Int) - 1 then spl (W a (b.set i.toNat 0)) ((a[i.toNat]?.getD 0).toNat) n.toNat ((b[i.toNat]?.getD 0).toNat + 1) 0 0 0 12 else (0, 0, 2)) else (0, 0, od a b n)
theorem f42_eq {F : Nat} (hF : 2100 ≤ F) {a b : List Int} {n i : Int} (hb : b.length ≤ 40) (ha : a.length ≤ 40) : f42 F a b n i = some (spn a b n i) := by
  unfold f42 spn
  rw [f73_eq (by omega) hb, Option.bind_some]
  by_cases h : od a b n = 0
  · obtain ⟨h1, h2, h3⟩ := od_zero h
    have hab := Good.of h1
    obtain ⟨m, rfl⟩ : ∃ m : Nat, n = m := ⟨n.toNat, by omega⟩
    rw [if_pos h]
    simp only [if_pos h1, h, bne_self_eq_false, Bool.false_eq_true, if_false, f67_eq, Option.bind_some, decide_eq_true_eq]
    have ew : w64 ((a.length : Int) - 1) = (a.length : Int) - 1 := w64_in (by omega)
    rw [ew]
    by_cases hi : 0 ≤ i ∧ i ≤ (a.length : Int) - 1
    · obtain ⟨j, rfl⟩ : ∃ j : Nat, i = j := ⟨i.toNat, by omega⟩
      have hl := hab.len
      have hja : j < a.length := by omega
      have hjb : j < b.length := by omega
      rw [if_pos hi, if_pos hi, f47_1m_eq (by omega), Option.bind_some]
      simp only [Int.toNat_natCast, Nat.zero_add, List.drop_zero]
      rw [req_pos (by omega), req_pos hjb, req_pos (by simp)]
      have et : List.take b.length (b.set j 0) = b.set j 0 := List.take_of_length_le (by simp)
      have hg2 := hab.setZero j
      have hsa := hab.sz _ (List.getElem_mem hja)
      have hsb := hab.st _ (List.getElem_mem hjb)
      obtain ⟨s, es⟩ : ∃ s : Nat, a[j] = s := ⟨a[j].toNat, by omega⟩
      obtain ⟨c, ec⟩ : ∃ c : Nat, b[j] = c := ⟨b[j].toNat, by omega⟩
      rw [et, f74_eq hF hg2, Option.bind_some, at_get hjb, Option.bind_some, List.getElem?_eq_getElem hja, List.getElem?_eq_getElem hjb, Option.getD_some, Option.getD_some, es, ec]
      have e := f42_p4_eq (F := F) (n := m) (by omega) (a := a) (b := b) (g := W a (b.set j 0)) (i := j) (s := s) (c := c) (by omega) (by omega) (by rw [List.getElem?_eq_getElem hja, es]) F 0 0 0 12 (by omega) (by omega)
      rw [show f42_p4 F m j (tab 1001 (W a (b.set j 0))) c a b F 0 0 12 0 = _ from e, Option.bind_some]
      rfl
    · rw [if_neg hi, if_neg hi]
  · rw [if_neg h]
    by_cases hs : stk a b = 0 <;> simp [hs, h]
end
section
set_option maxRecDepth 100000
theorem k1 : f28 2100 [3, 5] = some ([1, 2, 4, 7], 0) := by decide +kernel
theorem k2 : f30 2100 [6, 10, 15] = some (29, 0) := by decide +kernel
theorem k3 : f24 2100 [6, 10, 15] 0 = some ([0, 25, 20, 15, 10, 35], 0) := by decide +kernel
theorem k4 : f17 2100 [6, 10, 15] 31 = some (true, 0) := by decide +kernel
theorem k5 : f21 2100 [6, 10, 15] 29 = some (5, 35, 0) := by decide +kernel
theorem k6 : f19 2100 [1, 4, 6] 8 = some ([0, 2, 0], 0) := by decide +kernel
theorem k7 : f34 2100 [3, 5, 6, 8] = some ([0, 1], 0) := by decide +kernel
theorem k8 : f32 2100 [3, 4, 5] = some (false, 0) := by decide +kernel
theorem k9 : f51 2100 [2, 5] [3, 2] 11 = some ([3, 1], 0) := by decide +kernel
theorem k10 : f36 2100 [2, 5] [5, 2] 10 = some (2, 0) := by
  rw [f36_eq (by omega) (by decide)]
  decide +kernel
theorem k11 : f42 2100 [2, 5] [5, 2] 10 0 = some (0, 5, 0) := by
  rw [f42_eq (by omega) (by decide) (by decide)]
  decide +kernel
theorem k12' : tots [2, 5] [1, 1] = [0, 2, 5, 7] := by decide +kernel
theorem k12 : f38 2100 [2, 5] [1, 1] = some ([0, 2, 5, 7], 0) := by
  rw [f38_eq (by omega) (by decide), k12', show stk [2, 5] [1, 1] = 0 from by decide +kernel]
theorem k13 : f40 2100 [2, 5] [1, 1] 3 = some (5, 0) := by
  rw [f40_eq (by omega) (by decide)]
  decide +kernel
theorem k14 : f51 2100 [2, 5] [3, 2] 13 = some ([], 12) := by decide +kernel
theorem f16_of {F : Nat} (hF : 2100 ≤ F) (hF2 : F ≤ 5000) (k1 : f28 F [3, 5] = some ([1, 2, 4, 7], 0)) (k2 : f30 F [6, 10, 15] = some (29, 0)) (k3 : f24 F [6, 10, 15] 0 = some ([0, 25, 20, 15, 10, 35], 0)) (k4 : f17 F [6, 10, 15] 31 = some (true, 0))
    (k5 : f21 F [6, 10, 15] 29 = some (5, 35, 0)) (k6 : f19 F [1, 4, 6] 8 = some ([0, 2, 0], 0)) (k7 : f34 F [3, 5, 6, 8] = some ([0, 1], 0)) (k8 : f32 F [3, 4, 5] = some (false, 0)) (k9 : f51 F [2, 5] [3, 2] 11 = some ([3, 1], 0))
    (k10 : f36 F [2, 5] [5, 2] 10 = some (2, 0)) (k11 : f42 F [2, 5] [5, 2] 10 0 = some (0, 5, 0)) (k12 : f38 F [2, 5] [1, 1] = some ([0, 2, 5, 7], 0)) (k13 : f40 F [2, 5] [1, 1] 3 = some (5, 0)) (k14 : f51 F [2, 5] [3, 2] 13 = some ([], 12)) : f16 F = some true := by
  have e : ∀ l : List Int, l.length < 2100 → f23 F l l = some true := fun l h => by rw [f23_eq (by omega) hF2, decide_eq_true rfl]
  unfold f16
  simp only [f52, Option.bind_some, k1, k2, k3, k4, k5, k6, k7, k8, k9, k10, k11, k12, k13, k14, bne_self_eq_false, Bool.false_eq_true, if_false, beq_self_eq_true, if_true, e [1, 2, 4, 7] (by decide), e [0, 25, 20, 15, 10, 35] (by decide), e [0, 2, 0] (by decide), e [0, 1] (by decide), e [3, 1] (by decide), e [0, 2, 5, 7] (by decide)]
theorem works : f16 2100 = some true := f16_of (by omega) (by omega) k1 k2 k3 k4 k5 k6 k7 k8 k9 k10 k11 k12 k13 k14
end
section
/-- The fewest packets with at most c of size s, what g tells of the rest; and with how few of s. -/
def mv (s : Nat) (g : Nat → Int) : Nat → Nat → Int
  | 0, x => g x
  | c + 1, x => if (c + 1) * s ≤ x ∧ g (x - (c + 1) * s) + ((c + 1 : Nat) : Int) < mv s g c x then g (x - (c + 1) * s) + ((c + 1 : Nat) : Int) else mv s g c x
variable {F n : Nat} {a b : List Int} {g : Nat → Int} {s r most : Nat} {p : Int} {C : List (List Int)}
def val (s most : Nat) (g : Nat → Int) (x : Nat) : Int := if mv s g most x < 1001 then mv s g most x else 1001
end
section
structure GoodM (a b : List Int) : Prop where
  len : b.length = a.length
  five : a.length ≤ 5
  sz : ∀ x ∈ a, 1 ≤ x ∧ x ≤ 30
  st : ∀ x ∈ b, 0 ≤ x ∧ x ≤ 1000
theorem Good.m {a b : List Int} (h : Good a b) : GoodM a b := ⟨h.len, h.five, h.sz, fun x hx => by have := h.st x hx; omega⟩
end
section
/-- A number is put into numbers in descending order. -/
def ins (x : Int) : List Int → List Int
  | [] => [x]
  | y :: r => if x < y then y :: ins x r else x :: y :: r
theorem f99_eq {F : Nat} {x y : Int} : f99 F x y = some (decide (x < y)) := by
  unfold f99 f111
  rw [Option.bind_some, if_neg (by simp)]
theorem ckL_asc : ∀ (l : List Int) (p : Int), l.Pairwise (· < ·) → (∀ x ∈ l, 1 ≤ x ∧ x ≤ 30 ∧ p < x) → ckL p l = 0
  | [], _, _, _ => rfl
  | x :: r, p, h, hx => by
    rw [List.pairwise_cons] at h
    have h1 := hx x (by simp)
    rw [ckL, if_pos ⟨h1.1, h1.2.1⟩, if_neg (by omega)]
    exact ckL_asc r x h.2 fun y hy => by
      have := hx y (by simp [hy])
      have := h.1 y hy
      omega
theorem f82_p1_eq {F : Nat} {l : List Int} {x : Int} (hl : l.length ≤ 2000) : ∀ (k i : Nat), i ≤ l.length → l.length < k + i → ∃ z, f82_p1 F l x k i = some z ∧ (x ∈ l.drop i → ∃ j : Int, 0 ≤ j ∧ z = .c0 j) ∧ (x ∉ l.drop i → z = .c1) := by
  intro k
  induction k with
  | zero => intro i _ h; omega
  | succ k ih =>
    intro i h1 h2
    unfold f82_p1
    by_cases hi : i < l.length
    · rw [if_pos (by simp; omega), at_get hi, Option.bind_some, drop_cons hi]
      by_cases h : x = l[i]
      · rw [if_pos (by simp [h])]
        exact ⟨_, rfl, fun _ => ⟨_, by omega, rfl⟩, fun hh => absurd (by rw [h]; exact List.mem_cons_self ..) hh⟩
      · rw [if_neg (by simpa using h), w64_succ (by omega)]
        obtain ⟨z, e1, e2, e3⟩ := ih (i + 1) (by omega) (by omega)
        refine ⟨z, e1, fun hm => e2 ?_, fun hm => e3 fun hh => hm (List.mem_cons_of_mem _ hh)⟩
        rcases List.mem_cons.1 hm with hm | hm
        · exact absurd hm h
        · exact hm
    · rw [if_neg (by simp; omega), List.drop_eq_nil_of_le (by omega)]
      exact ⟨_, rfl, fun h => (by cases h), fun _ => rfl⟩
theorem f48_eq {F : Nat} {l : List Int} {x : Int} (hl : l.length ≤ 1000) (hF : 2100 ≤ F) : f48 F l x = some (decide (x ∈ l)) := by
  obtain ⟨z, e1, e2, e3⟩ := f82_p1_eq (F := F) (l := l) (x := x) (by omega) F 0 (by omega) (by omega)
  rw [List.drop_zero] at e2 e3
  unfold f48 f82
  rw [show f82_p1 F l x F 0 = some z from e1, Option.bind_some]
  by_cases h : x ∈ l
  · obtain ⟨j, hj, rfl⟩ := e2 h
    rw [decide_eq_true h]
    show some (decide (j ≥ 0)) = _
    rw [decide_eq_true (by omega)]
  · rw [e3 h, decide_eq_false h]
    rfl
theorem f44_p1_eq {F : Nat} (hF : 2100 ≤ F) {sz st c : Int} {z t : List Int} (hz : z.length = 4) (hzr : ∀ x ∈ z, 0 ≤ x ∧ x ≤ 255) (hs : 1 ≤ sz ∧ sz ≤ 30) (hc : 0 ≤ c ∧ c ≤ 255) :
    ∀ (k i : Nat) (acc : List Int), (i : Int) ≤ 1 + c % 4 → 1 + c % 4 < k + i → acc.length ≤ i → (0 < i → 0 < acc.length) → acc.Nodup → (∀ x ∈ acc, 1 ≤ x ∧ x ≤ sz) →
    ∃ l, f44_p1 F sz st c z t k i acc = some l ∧ l.length ≤ 4 ∧ 0 < l.length ∧ l.Nodup ∧ (∀ x ∈ l, 1 ≤ x ∧ x ≤ sz) := by
  have ew : w64 (1 + Int.tmod (w64 c) 4) = 1 + c % 4 := by rw [w64_in (n := c) (by omega), Int.tmod_eq_emod_of_nonneg (by omega), w64_in (by omega)]
  intro k
  induction k with
  | zero => intro i acc _ h; omega
  | succ k ih =>
    intro i acc h1 h2 h3 h4 h5 h6
    unfold f44_p1
    rw [ew]
    by_cases hi : (i : Int) < 1 + c % 4
    · have hi4 : i < z.length := by omega
      have hx := hzr _ (List.getElem_mem hi4)
      have e : w64 (1 + Int.tmod (w64 z[i]) sz) = 1 + z[i] % sz := by
        have := Int.emod_nonneg z[i] (b := sz) (by omega)
        have := Int.emod_lt_of_pos z[i] (b := sz) (by omega)
        rw [w64_in (n := z[i]) (by omega), Int.tmod_eq_emod_of_nonneg (by omega), w64_in (by omega)]
      rw [if_pos (by simpa using hi), req_pos (by omega), Int.toNat_natCast, Nat.mul_one, Nat.zero_add, List.getElem?_eq_getElem hi4, Option.bind_some, req_pos (by omega), take0, e, f48_eq (by omega) hF, Option.bind_some, w64_succ (by omega)]
      have m1 := Int.emod_nonneg z[i] (b := sz) (by omega)
      have m2 := Int.emod_lt_of_pos z[i] (b := sz) (by omega)
      unfold f44_p4_1
      by_cases hm : 1 + z[i] % sz ∈ acc
      · rw [if_pos (by simpa using hm), Option.bind_some]
        exact ih (i + 1) acc (by omega) (by omega) (by omega) (fun _ => List.length_pos_of_mem hm) h5 h6
      · rw [if_neg (by simpa using hm), e, req_pos (by simp; omega), Option.bind_some]
        refine ih (i + 1) _ (by omega) (by omega) (by simp; omega) (fun _ => by simp) ?_ ?_
        · rw [List.nodup_append]
          refine ⟨h5, by simp, fun a ha b hb => ?_⟩
          rw [List.mem_singleton] at hb
          intro hab
          subst hab; subst hb
          exact hm ha
        · intro x hx
          rcases List.mem_append.1 hx with hx | hx
          · exact h6 x hx
          · rw [List.mem_singleton] at hx
            omega
    · rw [if_neg (by simpa using hi)]
      exact ⟨acc, rfl, by omega, h4 (by omega), h5, h6⟩
theorem f44_p6_eq {F : Nat} {st c : Int} {z t l u : List Int} (ht : t.length = 4) (htr : ∀ x ∈ t, 0 ≤ x ∧ x ≤ 255) (hs : 0 ≤ st ∧ st ≤ 40) (hl : l.length ≤ 4) :
    ∀ (k i : Nat) (acc : List Int), i ≤ l.length → l.length < k + i → acc.length = i → (∀ x ∈ acc, 0 ≤ x ∧ x ≤ st) →
    ∃ b, f44_p6 F st l u z t c k i acc = some b ∧ b.length = l.length ∧ (∀ x ∈ b, 0 ≤ x ∧ x ≤ st) := by
  intro k
  induction k with
  | zero => intro i acc _ h; omega
  | succ k ih =>
    intro i acc h1 h2 h3 h4
    unfold f44_p6
    by_cases hi : i < l.length
    · have hi4 : i < t.length := by omega
      have hx := htr _ (List.getElem_mem hi4)
      have m1 := Int.emod_nonneg t[i] (b := st + 1) (by omega)
      have m2 := Int.emod_lt_of_pos t[i] (b := st + 1) (by omega)
      have e : Int.tmod (w64 t[i]) (w64 (st + 1)) = t[i] % (st + 1) := by
        rw [w64_in (n := t[i]) (by omega), w64_in (n := st + 1) (by omega), Int.tmod_eq_emod_of_nonneg (by omega)]
      rw [if_pos (by simp; omega), req_pos (by omega), Int.toNat_natCast, Nat.mul_one, Nat.zero_add, List.getElem?_eq_getElem hi4, Option.bind_some, req_pos (by rw [w64_in (by omega)]; omega), req_pos (by simp; omega), e, w64_succ (by omega)]
      refine ih (i + 1) _ (by omega) (by omega) (by simp; omega) fun x hx => ?_
      rcases List.mem_append.1 hx with hx | hx
      · exact h4 x hx
      · rw [List.mem_singleton] at hx
        omega
    · rw [if_neg (by simp; omega)]
      exact ⟨acc, rfl, by omega, h4⟩
end
section
variable {by_ s d r : Nat} {a : List Int} {i : Int} {M : Int}
end
section
def nt (l : List Int) (i : Nat) : Int := l[i]?.getD 0
theorem nt_get {l : List Int} {i : Nat} (h : i < l.length) : nt l i = l[i] := by unfold nt; rw [List.getElem?_eq_getElem h]; rfl
theorem ld {l : List Int} {i : Nat} (h : i < l.length) : l[0 + Int.toNat (i : Int)]? = some (nt l i) := by
  rw [Nat.zero_add, Int.toNat_natCast, nt_get h, List.getElem?_eq_getElem h]
theorem rq {α : Type} {i n : Nat} (h : i < n) {x : Option α} : req ((0 : Int) ≤ (i : Int) ∧ ((i : Int) : Int) < ((n : Nat) : Int)) x = x := req_pos (by omega)
theorem rs {α : Type} {l : List Int} {i : Nat} (h : i < l.length) {x : Option α} : req ((0 + Int.toNat (i : Int)) < List.length l) x = x := req_pos (by omega)
theorem rt {α : Type} {l : List Int} {i j : Nat} {v : Int} (h : i < l.length) {x : Option α} : req ((0 + Int.toNat (i : Int)) < List.length (List.set l j v)) x = x := req_pos (by rw [List.length_set]; omega)
theorem wm {i : Nat} (h : 0 < i) (h2 : i < 1000000000) : w64 ((i : Int) - 1) = ((i - 1 : Nat) : Int) := by rw [w64_in (by omega)]; omega
theorem wsub {a b : Nat} (h : a ≤ b) (h2 : b < 1000000000) : w64 ((b : Int) - (a : Int)) = ((b - a : Nat) : Int) := by rw [w64_in (by omega)]; omega
theorem wadd {a b : Nat} (h : a < 1000000000) (h2 : b < 1000000000) : w64 ((a : Int) + (b : Int)) = ((a + b : Nat) : Int) := by rw [w64_in (by omega)]; omega
theorem wtwo {a : Nat} (h : a < 1000000000) : w64 (2 * (a : Int)) = ((2 * a : Nat) : Int) := by rw [w64_in (by omega)]; omega
/-- Two numbers change places. -/
def sw (l : List Int) (i j : Nat) : List Int := (l.set i (nt l j)).set j (nt l i)
theorem sw_eq {l : List Int} {i j : Nat} : List.set (List.set l (0 + Int.toNat (i : Int)) (nt l j)) (0 + Int.toNat (j : Int)) (nt l i) = sw l i j := by
  rw [Nat.zero_add, Nat.zero_add, Int.toNat_natCast, Int.toNat_natCast]; rfl
theorem sw_len {l : List Int} {i j : Nat} : (sw l i j).length = l.length := by simp [sw]
theorem nt_set {l : List Int} {i k : Nat} {v : Int} (h : i < l.length) : nt (l.set i v) k = if k = i then v else nt l k := by
  unfold nt
  rw [List.getElem?_set]
  by_cases e : k = i
  · subst e; rw [if_pos rfl, if_pos rfl, if_pos h]; rfl
  · rw [if_neg (fun h => e h.symm), if_neg e]
theorem nt_sw {l : List Int} {i j k : Nat} (hi : i < l.length) (hj : j < l.length) : nt (sw l i j) k = if k = j then nt l i else if k = i then nt l j else nt l k := by
  unfold sw
  rw [nt_set (by simpa using hj), nt_set hi]
theorem sw_j {l : List Int} {i j : Nat} (hi : i < l.length) (hj : j < l.length) : nt (sw l i j) j = nt l i := by rw [nt_sw hi hj, if_pos rfl]
theorem sw_i {l : List Int} {i j : Nat} (hi : i < l.length) (hj : j < l.length) : nt (sw l i j) i = nt l j := by
  rw [nt_sw hi hj]
  by_cases h : i = j
  · subst h; rw [if_pos rfl]
  · rw [if_neg h, if_pos rfl]
theorem sw_o {l : List Int} {i j k : Nat} (hi : i < l.length) (hj : j < l.length) (h1 : k ≠ i) (h2 : k ≠ j) : nt (sw l i j) k = nt l k := by
  rw [nt_sw hi hj, if_neg h2, if_neg h1]
/-- Only what lies from a to b is moved. -/
structure Mv (a b : Nat) (l r : List Int) : Prop where
  perm : r.Perm l
  out : ∀ i, i < a ∨ b ≤ i → nt r i = nt l i
  src : ∀ i, a ≤ i → i < b → ∃ j, a ≤ j ∧ j < b ∧ nt r i = nt l j
theorem Mv.len {a b : Nat} {l r : List Int} (h : Mv a b l r) : r.length = l.length := h.perm.length_eq
theorem Mv.refl {a b : Nat} {l : List Int} : Mv a b l l := ⟨List.Perm.refl l, fun _ _ => rfl, fun i h1 h2 => ⟨i, h1, h2, rfl⟩⟩
theorem Mv.trans {a b : Nat} {l r t : List Int} (h : Mv a b l r) (k : Mv a b r t) : Mv a b l t :=
  ⟨k.perm.trans h.perm, fun i hi => (k.out i hi).trans (h.out i hi), fun i h1 h2 => by
    obtain ⟨j, j1, j2, j3⟩ := k.src i h1 h2
    obtain ⟨m, m1, m2, m3⟩ := h.src j j1 j2
    exact ⟨m, m1, m2, j3.trans m3⟩⟩
theorem Mv.mono {a b c d : Nat} {l r : List Int} (h : Mv a b l r) (h1 : c ≤ a) (h2 : b ≤ d) : Mv c d l r :=
  ⟨h.perm, fun i hi => h.out i (by omega), fun i i1 i2 => by
    by_cases hi : a ≤ i ∧ i < b
    · obtain ⟨j, j1, j2, j3⟩ := h.src i hi.1 hi.2
      exact ⟨j, by omega, by omega, j3⟩
    · exact ⟨i, i1, i2, h.out i (by omega)⟩⟩
theorem Mv.sw {a b i j : Nat} {l : List Int} (hi : a ≤ i ∧ i < b) (hj : a ≤ j ∧ j < b) (hb : b ≤ l.length) : Mv a b l (sw l i j) := by
  refine ⟨?_, fun k hk => ?_, fun k k1 k2 => ?_⟩
  · unfold Pack.sw
    rw [nt_get (by omega), nt_get (by omega)]
    exact List.set_set_perm (by omega) (by omega)
  · exact sw_o (by omega) (by omega) (by omega) (by omega)
  · rw [nt_sw (by omega) (by omega)]
    by_cases h1 : k = j
    · rw [if_pos h1]; exact ⟨i, hi.1, hi.2, rfl⟩
    · rw [if_neg h1]
      by_cases h2 : k = i
      · rw [if_pos h2]; exact ⟨j, hj.1, hj.2, rfl⟩
      · rw [if_neg h2]; exact ⟨k, k1, k2, rfl⟩
/-- In order from a to b. -/
def So (a b : Nat) (l : List Int) : Prop := ∀ i j, a ≤ i → i ≤ j → j < b → nt l i ≤ nt l j
/-- In order but for the number at j, which is less than what follows. -/
structure Ins (a j m : Nat) (l : List Int) : Prop where
  so : ∀ p q, a ≤ p → p ≤ q → q < m → p ≠ j → q ≠ j → nt l p ≤ nt l q
  lt : ∀ q, j < q → q < m → nt l j ≤ nt l q
theorem Ins.step {a j m : Nat} {l : List Int} (h : Ins a j m l) (hj : a < j) (hm : j < m) (hl : m ≤ l.length) (hlt : nt l j < nt l (j - 1)) : Ins a (j - 1) m (sw l j (j - 1)) := by
  have e1 : nt (sw l j (j - 1)) (j - 1) = nt l j := sw_j (by omega) (by omega)
  have e2 : nt (sw l j (j - 1)) j = nt l (j - 1) := sw_i (by omega) (by omega)
  have e3 : ∀ k, k ≠ j → k ≠ j - 1 → nt (sw l j (j - 1)) k = nt l k := fun k h1 h2 => sw_o (by omega) (by omega) h1 h2
  refine ⟨fun p q p1 p2 p3 p4 p5 => ?_, fun q q1 q2 => ?_⟩
  · by_cases hp : p = j
    · by_cases hq : q = j
      · subst hp; subst hq; exact Int.le_refl _
      · rw [hp, e2, e3 q hq p5]
        exact h.so (j - 1) q (by omega) (by omega) p3 (by omega) hq
    · by_cases hq : q = j
      · rw [hq, e2, e3 p hp p4]
        exact h.so p (j - 1) (by omega) (by omega) (by omega) hp (by omega)
      · rw [e3 p hp p4, e3 q hq p5]
        exact h.so p q p1 p2 p3 hp hq
  · rw [e1]
    by_cases hq : q = j
    · rw [hq, e2]; omega
    · rw [e3 q hq (by omega)]
      exact h.lt q (by omega) q2
theorem Ins.stop {a j m : Nat} {l : List Int} (h : Ins a j m l) (hs : j = a ∨ ¬ nt l j < nt l (j - 1)) (ha : a ≤ j) : So a m l := fun p q p1 p2 p3 => by
  by_cases hp : p = j
  · by_cases hq : q = j
    · subst hp; subst hq; exact Int.le_refl _
    · rw [hp]; exact h.lt q (by omega) p3
  · by_cases hq : q = j
    · rcases hs with hs | hs
      · omega
      · subst hq
        by_cases he : p = q - 1
        · subst he; omega
        · have := h.so p (q - 1) p1 (by omega) (by omega) hp (by omega)
          omega
    · exact h.so p q p1 p2 p3 hp hq
theorem Ins.of {a m : Nat} {l : List Int} (h : So a m l) : Ins a m (m + 1) l := ⟨fun p q p1 p2 p3 _ p5 => h p q p1 p2 (by omega), fun q q1 q2 => by omega⟩
theorem f93_in {F n a b i m : Nat} (hn : n < 100000) : ∀ (k j : Nat) (l : List Int), l.length = n → a ≤ j → j < m → m ≤ n → j < k + a → Ins a j m l → ∃ r, f93_p5_1 F 0 n a b i k j l = some r ∧ Mv a m l r ∧ So a m r := by
  intro k
  induction k with
  | zero => intro j l _ _ _ _ h; omega
  | succ k ih =>
    intro j l hl h1 h2 h3 h4 hi
    unfold f93_p5_1
    by_cases hj : a < j
    · rw [if_pos (by simp; omega), wm (by omega) (by omega), rq (by omega), ld (by omega), Option.bind_some, rq (by omega), ld (by omega), Option.bind_some, f99_eq, Option.bind_some]
      by_cases hlt : nt l j < nt l (j - 1)
      · rw [if_pos (decide_eq_true hlt), rs (by omega), rt (by omega), sw_eq]
        obtain ⟨r, r1, r2, r3⟩ := ih (j - 1) (sw l j (j - 1)) (by rw [sw_len, hl]) (by omega) (by omega) h3 (by omega) (hi.step hj h2 (by omega) hlt)
        exact ⟨r, r1, (Mv.sw ⟨h1, h2⟩ ⟨by omega, by omega⟩ (by omega)).trans r2, r3⟩
      · rw [if_neg (by simpa using hlt)]
        exact ⟨l, rfl, Mv.refl, hi.stop (Or.inr hlt) h1⟩
    · rw [if_neg (by simp; omega)]
      exact ⟨l, rfl, Mv.refl, hi.stop (Or.inl (by omega)) h1⟩
theorem f93_out {F n a b : Nat} (hn : n < 100000) (hF : n < F) (hb : b ≤ n) : ∀ (k i : Nat) (l : List Int), l.length = n → a ≤ i → b < k + i → i ≤ b → So a i l → ∃ r, f93_p1 F 0 n a b k i l = some r ∧ Mv a b l r ∧ So a b r := by
  intro k
  induction k with
  | zero => intro i l _ _ h h1; omega
  | succ k ih =>
    intro i l hl h1 h2 h3 h4
    unfold f93_p1
    by_cases hi : i < b
    · obtain ⟨r, r1, r2, r3⟩ := f93_in (F := F) (n := n) (a := a) (b := b) (i := i) (m := i + 1) hn F i l hl h1 (by omega) (by omega) (by omega) (Ins.of h4)
      obtain ⟨t, t1, t2, t3⟩ := ih (i + 1) r (by rw [r2.len, hl]) (by omega) (by omega) (by omega) r3
      rw [if_pos (by simp; omega), r1, Option.bind_some, w64_succ (by omega)]
      exact ⟨t, t1, (r2.mono (by omega) (by omega)).trans t2, t3⟩
    · rw [if_neg (by simp; omega)]
      have : i = b := by omega
      subst this
      exact ⟨l, rfl, Mv.refl, h4⟩
theorem f93_srt {F n a b : Nat} (hn : n < 100000) (hF : n < F) (hab : a ≤ b) (hb : b ≤ n) {l : List Int} (hl : l.length = n) : ∃ r, f93 F 0 n a b l = some r ∧ Mv a b l r ∧ So a b r := by
  unfold f93
  rw [w64_succ (by omega)]
  by_cases h : a = b
  · subst h
    obtain ⟨k, rfl⟩ : ∃ k, F = k + 1 := ⟨F - 1, by omega⟩
    refine ⟨l, ?_, Mv.refl, fun i j h1 h2 h3 => by omega⟩
    unfold f93_p1
    rw [if_neg (by simp; omega)]; rfl
  · obtain ⟨r, r1, r2, r3⟩ := f93_out (F := F) (a := a) (b := b) hn hF hb F (a + 1) l hl (by omega) (by omega) (by omega) (fun i j h1 h2 h3 => by
      have : i = j := by omega
      subst this; exact Int.le_refl _)
    rw [r1]
    exact ⟨r, rfl, r2, r3⟩
/-- A heap from lo to hi (numbers from f on). -/
def Hp (f lo hi : Nat) (l : List Int) : Prop := ∀ p c, lo ≤ p → (c = 2 * p + 1 ∨ c = 2 * p + 2) → c < hi → nt l (f + c) ≤ nt l (f + p)
structure HpX (f lo hi t : Nat) (l : List Int) : Prop where
  hp : ∀ p c, lo ≤ p → p ≠ t → (c = 2 * p + 1 ∨ c = 2 * p + 2) → c < hi → nt l (f + c) ≤ nt l (f + p)
  up : ∀ p c, lo ≤ p → (t = 2 * p + 1 ∨ t = 2 * p + 2) → (c = 2 * t + 1 ∨ c = 2 * t + 2) → c < hi → nt l (f + c) ≤ nt l (f + p)
theorem HpX.step {f lo hi t c : Nat} {l : List Int} (h : HpX f lo hi t l) (hlo : lo ≤ t) (hc : c = 2 * t + 1 ∨ c = 2 * t + 2) (hi2 : c < hi) (hl : f + hi ≤ l.length)
    (hbig : ∀ d, (d = 2 * t + 1 ∨ d = 2 * t + 2) → d < hi → nt l (f + d) ≤ nt l (f + c)) (hlt : nt l (f + t) < nt l (f + c)) : HpX f lo hi c (sw l (f + t) (f + c)) := by
  have e1 : nt (sw l (f + t) (f + c)) (f + c) = nt l (f + t) := sw_j (by omega) (by omega)
  have e2 : nt (sw l (f + t) (f + c)) (f + t) = nt l (f + c) := sw_i (by omega) (by omega)
  have e3 : ∀ k, k ≠ t → k ≠ c → nt (sw l (f + t) (f + c)) (f + k) = nt l (f + k) := fun k h1 h2 => sw_o (by omega) (by omega) (by omega) (by omega)
  refine ⟨fun p d p1 p2 p3 p4 => ?_, fun p d p1 p2 p3 p4 => ?_⟩
  · by_cases hp : p = t
    · subst hp
      rw [e2]
      by_cases hd : d = c
      · rw [hd, e1]; omega
      · rw [e3 d (by omega) hd]; exact hbig d p3 p4
    · rw [e3 p hp p2]
      by_cases hd : d = t
      · rw [hd, e2]; exact h.up p c p1 (by omega) hc hi2
      · rw [e3 d hd (by omega)]
        exact h.hp p d p1 hp p3 p4
  · have : p = t := by omega
    subst this
    rw [e2, e3 d (by omega) (by omega)]
    exact h.hp c d (by omega) (by omega) p3 p4
theorem HpX.stop {f lo hi t : Nat} {l : List Int} (h : HpX f lo hi t l) (hs : ∀ c, (c = 2 * t + 1 ∨ c = 2 * t + 2) → c < hi → nt l (f + c) ≤ nt l (f + t)) : Hp f lo hi l := fun p c p1 p2 p3 => by
  by_cases hp : p = t
  · subst hp; exact hs c p2 p3
  · exact h.hp p c p1 hp p2 p3
def out2 : f106_p1_R → List Int
  | .c0 l => l
  | .c1 l => l
theorem f106_in {F n f lo hi : Nat} (hn : n < 100000) (hh : f + hi ≤ n) : ∀ (k t : Nat) (l : List Int), l.length = n → lo ≤ t → hi < k + t ∧ t ≤ hi → HpX f lo hi t l → ∃ z, f106_p1 F 0 n hi f k t l = some z ∧ Mv f (f + hi) l (out2 z) ∧ Hp f lo hi (out2 z) := by
  intro k
  induction k with
  | zero =>
    intro t l hl h1 h2 h
    omega
  | succ k ih =>
    intro t l hl h1 h2 h
    unfold f106_p1
    by_cases ht : t < hi
    · rw [wtwo (by omega), w64_succ (by omega), w64_succ (by omega)]
      by_cases hc : 2 * t + 1 < hi
      · rw [if_neg (by simp; omega)]
        by_cases hc2 : 2 * t + 1 + 1 < hi
        · rw [if_pos (by simp; omega), wadd (by omega) (by omega), w64_succ (by omega), rq (by omega), ld (by omega), Option.bind_some, rq (by omega), ld (by omega), Option.bind_some, f99_eq, Option.bind_some, wadd (by omega) (by omega)]
          obtain ⟨c, ec, c1, c2⟩ : ∃ c : Nat, f106_p4_1 F 0 n hi f t (decide (nt l (f + (2 * t + 1)) < nt l (f + (2 * t + 1) + 1))) l = some (c : Int) ∧ (c = 2 * t + 1 ∨ c = 2 * t + 2) ∧ (∀ d, (d = 2 * t + 1 ∨ d = 2 * t + 2) → d < hi → nt l (f + d) ≤ nt l (f + c)) := by
            unfold f106_p4_1
            rw [wtwo (by omega), w64_succ (by omega), w64_succ (by omega)]
            by_cases hlt : nt l (f + (2 * t + 1)) < nt l (f + (2 * t + 1) + 1)
            · refine ⟨2 * t + 1 + 1, by rw [if_pos (decide_eq_true hlt)], Or.inr (by omega), fun d hd _ => ?_⟩
              rw [← Nat.add_assoc] at hlt ⊢
              rcases hd with rfl | rfl
              · rw [← Nat.add_assoc] at *; omega
              · exact Int.le_refl _
            · refine ⟨2 * t + 1, by rw [if_neg (by simpa using hlt)], Or.inl rfl, fun d hd _ => ?_⟩
              rcases hd with rfl | rfl
              · exact Int.le_refl _
              · have : f + (2 * t + 2) = f + (2 * t + 1) + 1 := by omega
                rw [this]; omega
          have hchi : c < hi := by omega
          rw [ec, Option.bind_some, wadd (by omega) (by omega), rq (by omega), ld (by omega), Option.bind_some, rq (by omega), ld (by omega), Option.bind_some, f99_eq, Option.bind_some]
          by_cases hlt : nt l (f + t) < nt l (f + c)
          · rw [if_pos (decide_eq_true hlt), rs (by omega), rt (by omega), sw_eq]
            obtain ⟨z, z1, z2, z3⟩ := ih c (sw l (f + t) (f + c)) (by rw [sw_len, hl]) (by omega) (by omega) (h.step h1 c1 hchi (by omega) c2 hlt)
            exact ⟨z, z1, (Mv.sw (by omega) (by omega) (by omega)).trans z2, z3⟩
          · rw [if_neg (by simpa using hlt)]
            exact ⟨_, rfl, Mv.refl, h.stop fun d hd hd2 => by have := c2 d hd hd2; show nt l _ ≤ nt l _; omega⟩
        · rw [if_neg (by simp; omega), wadd (by omega) (by omega), wadd (by omega) (by omega), rq (by omega), ld (by omega), Option.bind_some, rq (by omega), ld (by omega), Option.bind_some, f99_eq, Option.bind_some]
          by_cases hlt : nt l (f + t) < nt l (f + (2 * t + 1))
          · rw [if_pos (decide_eq_true hlt), rs (by omega), rt (by omega), sw_eq]
            obtain ⟨z, z1, z2, z3⟩ := ih (2 * t + 1) (sw l (f + t) (f + (2 * t + 1))) (by rw [sw_len, hl]) (by omega) (by omega) (h.step h1 (Or.inl rfl) hc (by omega) (fun d hd hd2 => by
              have : d = 2 * t + 1 := by omega
              subst this; exact Int.le_refl _) hlt)
            exact ⟨z, z1, (Mv.sw (by omega) (by omega) (by omega)).trans z2, z3⟩
          · rw [if_neg (by simpa using hlt)]
            exact ⟨_, rfl, Mv.refl, h.stop fun d hd hd2 => by
              have : d = 2 * t + 1 := by omega
              subst this; show nt l _ ≤ nt l _; omega⟩
      · rw [if_pos (by simp; omega)]
        exact ⟨_, rfl, Mv.refl, h.stop fun d hd hd2 => by omega⟩
    · rw [if_pos (by rw [decide_eq_true_eq, w64_in (n := 2 * (t : Int)) (by omega), w64_in (n := 2 * (t : Int) + 1) (by omega)]; omega)]
      exact ⟨_, rfl, Mv.refl, h.stop fun d hd hd2 => by omega⟩
theorem f106_eq {F n f lo hi : Nat} (hn : n < 100000) (hF : n < F) (hh : f + hi ≤ n) (hlh : lo ≤ hi) {l : List Int} (hl : l.length = n) (h : HpX f lo hi lo l) : ∃ r, f106 F 0 n lo hi f l = some r ∧ Mv f (f + hi) l r ∧ Hp f lo hi r := by
  obtain ⟨z, z1, z2, z3⟩ := f106_in (F := F) hn hh F lo l hl (Nat.le_refl _) (by omega) h
  unfold f106
  rw [z1, Option.bind_some]
  cases z with
  | c0 x => exact ⟨x, rfl, z2, z3⟩
  | c1 x => exact ⟨x, rfl, z2, z3⟩
theorem f94_up {F n a b : Nat} (hn : n < 100000) (hF : n < F) (hab : a ≤ b) (hb : b ≤ n) : ∀ (k i : Nat) (l : List Int), l.length = n → i < k ∧ i ≤ b - a → Hp a i (b - a) l → ∃ r, f94_p1 F 0 n a b k ((i : Int) - 1) l = some r ∧ Mv a b l r ∧ Hp a 0 (b - a) r := by
  intro k
  induction k with
  | zero => intro i l _ h; omega
  | succ k ih =>
    intro i l hl h1 h
    unfold f94_p1
    match i with
    | 0 =>
      rw [if_neg (by simp)]
      exact ⟨l, rfl, Mv.refl, h⟩
    | i + 1 =>
      have e : (((i + 1 : Nat) : Int) - 1) = (i : Int) := by omega
      obtain ⟨r, r1, r2, r3⟩ := f106_eq (F := F) (f := a) (lo := i) (hi := b - a) hn hF (by omega) (by omega) hl ⟨fun p c p1 p2 p3 p4 => h p c (by omega) p3 p4, fun p c p1 p2 p3 p4 => by omega⟩
      obtain ⟨t, t1, t2, t3⟩ := ih i r (by rw [r2.len, hl]) (by omega) r3
      rw [e, if_pos (by simp), wsub hab (by omega), r1, Option.bind_some, show w64 ((i : Int) - 1) = (i : Int) - 1 from w64_in (by omega), t1]
      rw [show a + (b - a) = b by omega] at r2
      exact ⟨t, rfl, r2.trans t2, t3⟩
theorem Hp.top {f hi : Nat} {l : List Int} (h : Hp f 0 hi l) : ∀ c, c < hi → nt l (f + c) ≤ nt l (f + 0) := by
  intro c
  induction c using Nat.strongRecOn with
  | ind c ih =>
    intro hc
    by_cases h0 : c = 0
    · subst h0; exact Int.le_refl _
    · have h1 := h ((c - 1) / 2) c (by omega) (by omega) hc
      have h2 := ih ((c - 1) / 2) (by omega) (by omega)
      omega
theorem f94_dn {F n a b : Nat} (hn : n < 100000) (hF : n < F) (hab : a ≤ b) (hb : b ≤ n) : ∀ (k i : Nat) (l : List Int), l.length = n → a + i ≤ b → i < k → Hp a 0 i l → So (a + i) b l → (∀ p q, a ≤ p → p < a + i → a + i ≤ q → q < b → nt l p ≤ nt l q) →
    ∃ r, f94_p5 F 0 n a k ((i : Int) - 1) l = some r ∧ Mv a b l r ∧ So a b r := by
  intro k
  induction k with
  | zero => intro i l _ _ h; omega
  | succ k ih =>
    intro i l hl hi h1 h h2 h3
    unfold f94_p5
    match i with
    | 0 =>
      rw [if_neg (by simp)]
      exact ⟨l, rfl, Mv.refl, h2⟩
    | i + 1 =>
      have e : (((i + 1 : Nat) : Int) - 1) = (i : Int) := by omega
      have htop := h.top
      have e1 : nt (sw l a (a + i)) (a + i) = nt l a := sw_j (by omega) (by omega)
      have e2 : nt (sw l a (a + i)) a = nt l (a + i) := sw_i (by omega) (by omega)
      have e3 : ∀ k, k ≠ a → k ≠ a + i → nt (sw l a (a + i)) k = nt l k := fun k h1 h2 => sw_o (by omega) (by omega) h1 h2
      have g := Mv.sw (l := l) (a := a) (b := b) (i := a) (j := a + i) (by omega) (by omega) (by omega)
      obtain ⟨r, r1, r2, r3⟩ := f106_eq (F := F) (f := a) (lo := 0) (hi := i) hn hF (by omega) (by omega) (l := sw l a (a + i)) (by rw [sw_len, hl]) ⟨fun p c p1 p2 p3 p4 => by
        rw [e3 (a + c) (by omega) (by omega), e3 (a + p) (by omega) (by omega)]
        exact h p c p1 p3 (by omega), fun p c p1 p2 p3 p4 => by omega⟩
      have hle : ∀ p, a ≤ p → p < a + i → nt r p ≤ nt l a := fun p p1 p2 => by
        obtain ⟨j, j1, j2, j3⟩ := r2.src p p1 p2
        rw [j3]
        by_cases hj : j = a
        · rw [hj, e2]; have := htop i (by omega); exact this
        · rw [e3 j hj (by omega)]
          have := htop (j - a) (by omega)
          rw [show a + (j - a) = j by omega] at this
          exact this
      have hge : ∀ q, a + i ≤ q → q < b → nt r q = if q = a + i then nt l a else nt l q := fun q q1 q2 => by
        rw [r2.out q (by omega)]
        by_cases hq : q = a + i
        · rw [if_pos hq, hq, e1]
        · rw [if_neg hq, e3 q (by omega) hq]
      have hla : ∀ q, a + (i + 1) ≤ q → q < b → nt l a ≤ nt l q := fun q q1 q2 => h3 a q (by omega) (by omega) q1 q2
      obtain ⟨t, t1, t2, t3⟩ := ih i r (by rw [r2.len, sw_len, hl]) (by omega) (by omega) r3 (fun p q p1 p2 p3 => by
        rw [hge p p1 (by omega), hge q (by omega) p3]
        by_cases hp : p = a + i
        · rw [if_pos hp]
          by_cases hq : q = a + i
          · rw [if_pos hq]; exact Int.le_refl _
          · rw [if_neg hq]; exact hla q (by omega) p3
        · rw [if_neg hp, if_neg (by omega)]
          exact h2 p q (by omega) p2 p3) (fun p q p1 p2 p3 p4 => by
        have h5 := hle p p1 p2
        rw [hge q p3 p4]
        by_cases hq : q = a + i
        · rw [if_pos hq]; exact h5
        · rw [if_neg hq]
          have := hla q (by omega) p4
          omega)
      rw [e, if_pos (by simp), wadd (by omega) (by omega), rq (by omega), ld (by omega), Option.bind_some, rq (by omega), ld (by omega), Option.bind_some, rs (by omega), rt (by omega), sw_eq]
      rw [show f106 F 0 n 0 i a (sw l a (a + i)) = some r from r1, Option.bind_some, show w64 ((i : Int) - 1) = (i : Int) - 1 from w64_in (by omega), t1]
      exact ⟨t, rfl, (g.trans (r2.mono (by omega) (by omega))).trans t2, t3⟩
theorem f94_srt {F n a b : Nat} (hn : n < 100000) (hF : n < F) (hab : a < b) (hb : b ≤ n) {l : List Int} (hl : l.length = n) : ∃ r, f94 F 0 n a b l = some r ∧ Mv a b l r ∧ So a b r := by
  unfold f94
  have e1 : w64 (Int.tdiv (w64 ((w64 ((b : Int) - (a : Int))) - 1)) 2) = (((b - a - 1) / 2 + 1 : Nat) : Int) - 1 := by
    rw [wsub (by omega) (by omega), wm (by omega) (by omega), Int.tdiv_eq_ediv_of_nonneg (by omega), w64_in (by omega)]; omega
  have e2 : w64 ((w64 ((b : Int) - (a : Int))) - 1) = ((b - a : Nat) : Int) - 1 := by
    rw [wsub (by omega) (by omega), w64_in (by omega)]
  obtain ⟨r, r1, r2, r3⟩ := f94_up (F := F) (a := a) (b := b) hn hF (by omega) hb F ((b - a - 1) / 2 + 1) l hl (by omega) (fun p c p1 p2 p3 => by omega)
  obtain ⟨t, t1, t2, t3⟩ := f94_dn (F := F) (a := a) (b := b) hn hF (by omega) hb F (b - a) r (by rw [r2.len, hl]) (by omega) (by omega) r3 (fun p q p1 p2 p3 => by omega) (fun p q p1 p2 p3 p4 => by omega)
  rw [e1, r1, Option.bind_some, e2, t1]
  exact ⟨t, rfl, r2.trans t2, t3⟩
end
section
theorem u64_nat {m : Nat} (h : m < 1000000000) : IntKind.wrap .u64 ((m : Nat) : Int) = (m : Int) := by
  have e : IntKind.wrap .u64 ((m : Nat) : Int) = (m : Int) % 18446744073709551616 := rfl
  rw [e]; omega
theorem and_u {x : Int} {m : Nat} (h : m < 1000000000) : ∃ r : Nat, iAnd .u64 x (m : Int) = (r : Int) ∧ r ≤ m := by
  unfold iAnd
  refine ⟨(BitVec.ofInt 64 x &&& BitVec.ofInt 64 (m : Int)).toNat, ?_, ?_⟩
  · have h1 : (BitVec.ofInt 64 x &&& BitVec.ofInt 64 (m : Int)).toNat ≤ m := by
      rw [BitVec.toNat_and, BitVec.ofInt_natCast, BitVec.toNat_ofNat, Nat.mod_eq_of_lt (by omega)]
      exact Nat.and_le_right
    exact u64_nat (Nat.lt_of_le_of_lt h1 h)
  · rw [BitVec.toNat_and, BitVec.ofInt_natCast, BitVec.toNat_ofNat, Nat.mod_eq_of_lt (by omega)]
    exact Nat.and_le_right
/-- What the next power of two is needed for. -/
def Pow (F N : Nat) : Prop := ∀ n : Nat, 0 < n → n ≤ N → ∃ m : Nat, f107 F (n : Int) = some (m : Int) ∧ 1 ≤ m ∧ m ≤ 2 * n
def powOk (F N : Nat) : Bool := (List.range N).all fun (n : Nat) => match f107 F ((n + 1 : Nat) : Int) with | some m => decide (1 ≤ m ∧ m ≤ 2 * ((n + 1 : Nat) : Int)) | none => false
theorem Pow.of {F N : Nat} (h : powOk F N = true) : Pow F N := fun n h0 hn => by
  have := (List.all_eq_true.1 h) (n - 1) (List.mem_range.2 (by omega))
  rw [show n - 1 + 1 = n by omega] at this
  cases e : f107 F (n : Int) with
  | none => rw [e] at this; cases this
  | some m =>
    rw [e] at this
    have := of_decide_eq_true this
    exact ⟨m.toNat, by rw [Int.toNat_of_nonneg (by omega)], by omega, by omega⟩
theorem pow2100 : Pow 2100 1000 := Pow.of (by decide +kernel)
theorem f95_in {F n a b m : Nat} (hn : n < 100000) (hab : a + 8 ≤ b) (hb : b ≤ n) (hm : 1 ≤ m ∧ m ≤ 2 * (b - a)) : ∀ (k i : Nat) (l : List Int) (x : Int), l.length = n → a ≤ i → i ≤ a + (b - a) / 4 * 2 + 2 → a + (b - a) / 4 * 2 + 2 < k + i → ∃ r, f95_p2 F 0 n a b m k i l x = some r ∧ Mv a b l r := by
  intro k
  induction k with
  | zero => intro i l x _ _ _ h; omega
  | succ k ih =>
    intro i l x hl h1 h2 h3
    have e1 : w64 ((w64 ((a : Int) + (w64 ((w64 (Int.tdiv (w64 ((b : Int) - a)) 4)) * 2)))) + 1) = ((a + (b - a) / 4 * 2 + 1 : Nat) : Int) := by
      rw [wsub (by omega) (by omega), Int.tdiv_eq_ediv_of_nonneg (by omega), w64_in (n := ((b - a : Nat) : Int) / 4) (by omega), w64_in (n := ((b - a : Nat) : Int) / 4 * 2) (by omega), w64_in (n := (a : Int) + _) (by omega), w64_in (by omega)]; omega
    unfold f95_p2
    rw [e1]
    by_cases hi : i ≤ a + (b - a) / 4 * 2 + 1
    · rw [if_pos (by simp; omega)]
      unfold f108
      rw [Option.bind_some]
      generalize iXor .u64 _ _ = y
      dsimp only
      have e2 : IntKind.wrap .u64 ((m : Int) - 1) = ((m - 1 : Nat) : Int) := by
        rw [show (m : Int) - 1 = ((m - 1 : Nat) : Int) by omega, u64_nat (by omega)]
      obtain ⟨o, o1, o2⟩ : ∃ o : Nat, f95_p5_1 F 0 n a b m i y l y = some (o : Int) ∧ o < b - a := by
        obtain ⟨r, r1, r2⟩ := and_u (x := y) (m := m - 1) (by omega)
        unfold f95_p5_1
        rw [e2, r1, wsub (by omega) (by omega), show w64 (r : Int) = (r : Int) from w64_nat (by omega)]
        by_cases hr : b - a ≤ r
        · rw [if_pos (by simp; omega), wsub hr (by omega)]
          exact ⟨r - (b - a), rfl, by omega⟩
        · rw [if_neg (by simp; omega)]
          exact ⟨r, rfl, by omega⟩
      rw [o1, Option.bind_some, wadd (by omega) (by omega), rq (by omega), ld (by omega), Option.bind_some, rq (by omega), ld (by omega), Option.bind_some, rs (by omega), rt (by omega), sw_eq, w64_succ (by omega)]
      obtain ⟨r, r1, r2⟩ := ih (i + 1) (sw l i (a + o)) y (by rw [sw_len, hl]) (by omega) (by omega) (by omega)
      exact ⟨r, r1, (Mv.sw (by omega) (by omega) (by omega)).trans r2⟩
    · rw [if_neg (by simp; omega)]
      exact ⟨l, rfl, Mv.refl⟩
theorem f95_rg {F n a b : Nat} (hn : n < 100000) (hF : n < F) (hp : Pow F n) (hab : a ≤ b) (hb : b ≤ n) {l : List Int} (hl : l.length = n) : ∃ r, f95 F 0 n a b l = some r ∧ Mv a b l r := by
  unfold f95 f95_p0
  rw [wsub hab (by omega)]
  by_cases h : 8 ≤ b - a
  · obtain ⟨m, m1, m2, m3⟩ := hp (b - a) (by omega) (by omega)
    have e1 : w64 ((w64 ((a : Int) + (w64 ((w64 (Int.tdiv ((b - a : Nat) : Int) 4)) * 2)))) - 1) = ((a + (b - a) / 4 * 2 - 1 : Nat) : Int) := by
      rw [Int.tdiv_eq_ediv_of_nonneg (by omega), w64_in (n := ((b - a : Nat) : Int) / 4) (by omega), w64_in (n := ((b - a : Nat) : Int) / 4 * 2) (by omega), w64_in (n := (a : Int) + _) (by omega), w64_in (by omega)]; omega
    obtain ⟨r, r1, r2⟩ := f95_in (F := F) (n := n) (a := a) (b := b) (m := m) hn (by omega) hb ⟨m2, m3⟩ F (a + (b - a) / 4 * 2 - 1) l (IntKind.wrap .u64 ((b - a : Nat) : Int)) hl (by omega) (by omega) (by omega)
    rw [if_pos (by simp; omega), m1, Option.bind_some, e1, r1]
    exact ⟨r, rfl, r2⟩
  · rw [if_neg (by simp; omega)]
    exact ⟨l, rfl, Mv.refl⟩
/-- Three places in order: each answer is one of those that were asked. -/
theorem f112_eq {F n i j : Nat} {l : List Int} {s : Int} (hl : l.length = n) (hi : i < n) (hj : j < n) : ∃ (p q : Nat) (t : Int), f112 F 0 n i j l s = some ((p : Int), (q : Int), t) ∧ ((p = i ∧ q = j) ∨ (p = j ∧ q = i)) := by
  unfold f112
  rw [rq hj, ld (by omega), Option.bind_some, rq hi, ld (by omega), Option.bind_some, f99_eq, Option.bind_some]
  by_cases h : nt l j < nt l i
  · rw [if_pos (decide_eq_true h)]; exact ⟨j, i, _, rfl, Or.inr ⟨rfl, rfl⟩⟩
  · rw [if_neg (by simpa using h)]; exact ⟨i, j, _, rfl, Or.inl ⟨rfl, rfl⟩⟩
theorem f110_eq {F n i j m : Nat} {l : List Int} {s : Int} (hl : l.length = n) (hi : i < n) (hj : j < n) (hm : m < n) : ∃ (p : Nat) (t : Int), f110 F 0 n i j m l s = some ((p : Int), t) ∧ (p = i ∨ p = j ∨ p = m) := by
  unfold f110
  obtain ⟨p, q, t, e, h⟩ := f112_eq (F := F) (s := s) hl hi hj
  rw [e, Option.bind_some]
  dsimp only
  obtain ⟨p2, q2, t2, e2, h2⟩ := f112_eq (F := F) (i := q) (j := m) (s := t) hl (by omega) hm
  rw [e2, Option.bind_some]
  dsimp only
  obtain ⟨p3, q3, t3, e3, h3⟩ := f112_eq (F := F) (i := p) (j := p2) (s := t2) hl (by omega) (by omega)
  rw [e3, Option.bind_some]
  exact ⟨q3, t3, rfl, by omega⟩
theorem f109_eq {F n i : Nat} {l : List Int} {s : Int} (hl : l.length = n) (hn : n < 100000) (hi : 0 < i) (hi2 : i + 1 < n) : ∃ (p : Nat) (t : Int), f109 F 0 n i l s = some ((p : Int), t) ∧ i - 1 ≤ p ∧ p ≤ i + 1 := by
  unfold f109
  rw [wm hi (by omega), w64_succ (by omega)]
  obtain ⟨p, t, e, h⟩ := f110_eq (F := F) (i := i - 1) (j := i) (m := i + 1) (s := s) hl (by omega) (by omega) hi2
  rw [e]
  exact ⟨p, t, rfl, by omega⟩
theorem quart {a b c : Nat} (hc : c ≤ 3) (hab : a ≤ b) (hb : b < 100000) : w64 ((a : Int) + (w64 ((w64 (Int.tdiv ((b - a : Nat) : Int) 4)) * (c : Int)))) = ((a + (b - a) / 4 * c : Nat) : Int) := by
  have e : (((b - a) / 4 * c : Nat) : Int) = ((b - a : Nat) : Int) / 4 * (c : Int) := by
    rw [Int.natCast_mul, Int.natCast_ediv]; rfl
  have hle : (b - a) / 4 * c ≤ (b - a) / 4 * 3 := Nat.mul_le_mul_left _ hc
  rw [Int.tdiv_eq_ediv_of_nonneg (by omega), w64_in (n := ((b - a : Nat) : Int) / 4) (by omega), ← e, w64_nat (by omega), wadd (by omega) (by omega)]
theorem f96_eq {F n a b : Nat} (hn : n < 100000) (hab : a < b) (hb : b ≤ n) {l : List Int} (hl : l.length = n) : ∃ (p : Nat) (h : Int), f96 F 0 n a b l = some ((p : Int), h) ∧ a ≤ p ∧ p < b := by
  have q1 : w64 ((a : Int) + (w64 ((w64 (Int.tdiv ((b - a : Nat) : Int) 4)) * 1))) = _ := quart (c := 1) (by omega) (by omega) (by omega)
  have q2 : w64 ((a : Int) + (w64 ((w64 (Int.tdiv ((b - a : Nat) : Int) 4)) * 2))) = _ := quart (c := 2) (by omega) (by omega) (by omega)
  have q3 : w64 ((a : Int) + (w64 ((w64 (Int.tdiv ((b - a : Nat) : Int) 4)) * 3))) = _ := quart (c := 3) (by omega) (by omega) (by omega)
  obtain ⟨p, h, e, e1, e2⟩ : ∃ (p : Nat) (h : Int), f96_p0 F 0 n b a l = some ((p : Int), h) ∧ a ≤ p ∧ p < b := by
    unfold f96_p0
    rw [wsub (by omega) (by omega)]
    by_cases h8 : 8 ≤ b - a
    · obtain ⟨i, j, m, t, e, i1, i2, j1, j2, m1, m2⟩ : ∃ (i j m : Nat) (t : Int), f96_p1 F 0 n a b l = some ((i : Int), (j : Int), (m : Int), t) ∧ a ≤ i ∧ i < b ∧ a ≤ j ∧ j < b ∧ a ≤ m ∧ m < b := by
        unfold f96_p1
        rw [wsub (by omega) (by omega), q1, q2, q3]
        by_cases h50 : 50 ≤ b - a
        · rw [if_pos (by simp; omega)]
          obtain ⟨i, t1, e1, i1, i2⟩ := f109_eq (F := F) (i := a + (b - a) / 4 * 1) (s := 0) hl hn (by omega) (by omega)
          obtain ⟨j, t2, e2, j1, j2⟩ := f109_eq (F := F) (i := a + (b - a) / 4 * 2) (s := t1) hl hn (by omega) (by omega)
          obtain ⟨m, t3, e3, m1, m2⟩ := f109_eq (F := F) (i := a + (b - a) / 4 * 3) (s := t2) hl hn (by omega) (by omega)
          rw [e1, Option.bind_some]
          dsimp only
          rw [e2, Option.bind_some]
          dsimp only
          rw [e3, Option.bind_some]
          exact ⟨i, j, m, t3, rfl, by omega, by omega, by omega, by omega, by omega, by omega⟩
        · rw [if_neg (by simp; omega)]
          exact ⟨_, _, _, 0, rfl, by omega, by omega, by omega, by omega, by omega, by omega⟩
      rw [if_pos (by simp; omega), e, Option.bind_some]
      dsimp only
      obtain ⟨p, t, e, h⟩ := f110_eq (F := F) (i := i) (j := j) (m := m) (s := t) hl (by omega) (by omega) (by omega)
      rw [e]
      exact ⟨p, t, rfl, by omega, by omega⟩
    · rw [if_neg (by simp; omega), q2]
      exact ⟨_, 0, rfl, by omega, by omega⟩
  unfold f96
  rw [e, Option.bind_some]
  dsimp only
  split
  · exact ⟨p, 1, rfl, e1, e2⟩
  · split
    · exact ⟨p, 2, rfl, e1, e2⟩
    · exact ⟨p, 0, rfl, e1, e2⟩
theorem f97_in {F n a b : Nat} (hn : n < 100000) (hb : b ≤ n) : ∀ (k i j : Nat) (l : List Int), l.length = n → a ≤ i → j < b → j < k + i → 0 < k → ∃ r, f97_p1 F 0 n k i j l = some r ∧ Mv a b l r := by
  intro k
  induction k with
  | zero => intro i j l _ _ _ _ h; omega
  | succ k ih =>
    intro i j l hl h1 h2 h3 h4
    unfold f97_p1
    by_cases hij : i < j
    · rw [if_pos (by simp; omega), rq (by omega), ld (by omega), Option.bind_some, rq (by omega), ld (by omega), Option.bind_some, rs (by omega), rt (by omega), sw_eq, w64_succ (by omega), wm (by omega) (by omega)]
      obtain ⟨r, r1, r2⟩ := ih (i + 1) (j - 1) (sw l i j) (by rw [sw_len, hl]) (by omega) (by omega) (by omega) (by omega)
      exact ⟨r, r1, (Mv.sw (by omega) (by omega) (by omega)).trans r2⟩
    · rw [if_neg (by simp; omega)]
      exact ⟨l, rfl, Mv.refl⟩
theorem f97_rg {F n a b : Nat} (hn : n < 100000) (hF : n < F) (hab : a < b) (hb : b ≤ n) {l : List Int} (hl : l.length = n) : ∃ r, f97 F 0 n a b l = some r ∧ Mv a b l r := by
  unfold f97
  obtain ⟨r, r1, r2⟩ := f97_in (F := F) (n := n) (a := a) (b := b) hn hb F a (b - 1) l hl (Nat.le_refl _) (by omega) (by omega) (by omega)
  rw [wm (by omega) (by omega), r1]
  exact ⟨r, rfl, r2⟩
/-- What lies before a is not greater. -/
def Low (a b : Nat) (l : List Int) : Prop := 0 < a → ∀ i, a ≤ i → i < b → nt l (a - 1) ≤ nt l i
theorem Low.rg {a b : Nat} {l r : List Int} (h : Low a b l) (g : Mv a b l r) : Low a b r := fun h0 i i1 i2 => by
  obtain ⟨j, j1, j2, j3⟩ := g.src i i1 i2
  rw [g.out (a - 1) (by omega), j3]
  exact h h0 j j1 j2
/-- How far it is in order. -/
theorem f98_run {F n a b : Nat} {l : List Int} {s : Int} (hn : n < 100000) (hl : l.length = n) (hb : b ≤ n) : ∀ (k i : Nat), a < i → i ≤ b → b < k + i → So a i l → ∃ j : Nat, f98_p5_1 F 0 n a b s l k i = some (j : Int) ∧ i ≤ j ∧ j ≤ b ∧ So a j l := by
  intro k
  induction k with
  | zero => intro i _ _ h; omega
  | succ k ih =>
    intro i h1 h2 h3 h
    unfold f98_p5_1
    by_cases hi : i < b
    · rw [if_pos (by simp; omega), rq (by omega), ld (by omega), Option.bind_some, wm (by omega) (by omega), rq (by omega), ld (by omega), Option.bind_some, f99_eq, Option.bind_some]
      by_cases hlt : nt l i < nt l (i - 1)
      · rw [if_pos (decide_eq_true hlt)]
        exact ⟨i, rfl, Nat.le_refl _, h2, h⟩
      · rw [if_neg (by simpa using hlt), w64_succ (by omega)]
        obtain ⟨j, j1, j2, j3, j4⟩ := ih (i + 1) (by omega) (by omega) (by omega) fun p q p1 p2 p3 => by
          by_cases hq : q = i
          · subst hq
            by_cases hp : p = q
            · subst hp; exact Int.le_refl _
            · have := h p (q - 1) p1 (by omega) (by omega)
              omega
          · exact h p q p1 p2 (by omega)
        exact ⟨j, j1, by omega, j3, j4⟩
    · rw [if_neg (by simp; omega)]
      exact ⟨i, rfl, Nat.le_refl _, h2, h⟩
theorem f98_left {F n a b m : Nat} {x y : Int} (hn : n < 100000) (hb : b ≤ n) (hmb : m ≤ b) : ∀ (k j : Nat) (l : List Int), l.length = n → a ≤ j → j < m → j < k → Low a b l → Ins a j m l → ∃ r, f98_p12_1 F 0 n a b x y k j l = some r ∧ Mv a b l r ∧ So a m r := by
  intro k
  induction k with
  | zero => intro j l _ _ _ h; omega
  | succ k ih =>
    intro j l hl h1 h2 h3 hlow hi
    unfold f98_p12_1
    by_cases hj : 1 ≤ j
    · rw [if_pos (by simp; omega), rq (by omega), ld (by omega), Option.bind_some, wm (by omega) (by omega), rq (by omega), ld (by omega), Option.bind_some, f99_eq, Option.bind_some]
      by_cases hlt : nt l j < nt l (j - 1)
      · have haj : a < j := by
          by_cases he : a = j
          · subst he
            have := hlow (by omega) a (Nat.le_refl _) (by omega)
            omega
          · omega
        have g := Mv.sw (l := l) (a := a) (b := b) (i := j) (j := j - 1) (by omega) (by omega) (by omega)
        obtain ⟨r, r1, r2, r3⟩ := ih (j - 1) (sw l j (j - 1)) (by rw [sw_len, hl]) (by omega) (by omega) (by omega) (hlow.rg g) (hi.step haj h2 (by omega) hlt)
        rw [if_pos (decide_eq_true hlt), rs (by omega), rt (by omega), sw_eq]
        exact ⟨r, r1, g.trans r2, r3⟩
      · rw [if_neg (by simpa using hlt)]
        exact ⟨l, rfl, Mv.refl, hi.stop (Or.inr hlt) h1⟩
    · rw [if_neg (by simp; omega)]
      exact ⟨l, rfl, Mv.refl, hi.stop (Or.inl (by omega)) h1⟩
theorem f98_right {F n a b c : Nat} {x y : Int} (hn : n < 100000) (hb : b ≤ n) : ∀ (k j : Nat) (l : List Int), l.length = n → c < j → j ≤ b → b < k + j → ∃ r, f98_p18_1 F 0 n a b x y k j l = some r ∧ Mv c b l r := by
  intro k
  induction k with
  | zero => intro j l _ _ _ h; omega
  | succ k ih =>
    intro j l hl h1 h2 h3
    unfold f98_p18_1
    by_cases hj : j < b
    · rw [if_pos (by simp; omega), rq (by omega), ld (by omega), Option.bind_some, wm (by omega) (by omega), rq (by omega), ld (by omega), Option.bind_some, f99_eq, Option.bind_some]
      by_cases hlt : nt l j < nt l (j - 1)
      · have g := Mv.sw (l := l) (a := c) (b := b) (i := j) (j := j - 1) (by omega) (by omega) (by omega)
        obtain ⟨r, r1, r2⟩ := ih (j + 1) (sw l j (j - 1)) (by rw [sw_len, hl]) (by omega) (by omega) (by omega)
        rw [if_pos (decide_eq_true hlt), rs (by omega), rt (by omega), sw_eq, w64_succ (by omega)]
        exact ⟨r, r1, g.trans r2⟩
      · rw [if_neg (by simpa using hlt)]
        exact ⟨l, rfl, Mv.refl⟩
    · rw [if_neg (by simp; omega)]
      exact ⟨l, rfl, Mv.refl⟩
theorem f98_loop {F n a b : Nat} (hn : n < 100000) (hF : n < F) (hb : b ≤ n) : ∀ (k i : Nat) (s : Nat) (l : List Int), l.length = n → a < i → i ≤ b → 5 < k + s → s ≤ 5 → So a i l → Low a b l →
    ∃ z r, f98_p1_8 F 0 n a b k i s l = some z ∧ Mv a b l r ∧ (z = .c0 true r ∧ So a b r ∨ z = .c0 false r ∨ z = .c1 r) := by
  intro k
  induction k with
  | zero => intro i s l _ _ _ h; omega
  | succ k ih =>
    intro i s l hl h1 h2 h3 h4 hso hlow
    unfold f98_p1_8
    by_cases hs : s < 5
    · obtain ⟨j, j1, j2, j3, j4⟩ := f98_run (F := F) (s := (s : Int)) hn hl hb F i h1 h2 (by omega) hso
      rw [if_pos (by simp; omega), j1, Option.bind_some]
      by_cases hjb : j = b
      · subst hjb
        rw [if_pos (by simp)]
        exact ⟨_, l, rfl, Mv.refl, Or.inl ⟨rfl, j4⟩⟩
      · rw [if_neg (by simp; omega), wsub (by omega) (by omega)]
        by_cases h50 : b - a < 50
        · rw [if_pos (by simp; omega)]
          exact ⟨_, l, rfl, Mv.refl, Or.inr (Or.inl rfl)⟩
        · rw [if_neg (by simp; omega), wm (by omega) (by omega), rq (by omega), ld (by omega), Option.bind_some, rq (by omega), ld (by omega), Option.bind_some, rs (by omega), rt (by omega)]
          have g := Mv.sw (l := l) (a := a) (b := b) (i := j) (j := j - 1) (by omega) (by omega) (by omega)
          have ins : Ins a (j - 1) j (sw l j (j - 1)) := ⟨fun p q p1 p2 p3 p4 p5 => by
            rw [sw_o (by omega) (by omega) (by omega) p4, sw_o (by omega) (by omega) (by omega) p5]
            exact j4 p q p1 p2 p3, fun q q1 q2 => by omega⟩
          obtain ⟨r, r1, r2, r3⟩ : ∃ r, f98_p10_1 F 0 n a b j s l (nt l (j - 1)) (nt l j) = some r ∧ Mv a b (sw l j (j - 1)) r ∧ So a j r := by
            unfold f98_p10_1
            rw [wsub (by omega) (by omega), wm (by omega) (by omega), sw_eq]
            by_cases h2 : 2 ≤ j - a
            · obtain ⟨r, r1, r2, r3⟩ := f98_left (F := F) (a := a) (b := b) (m := j) (x := (j : Int)) (y := (s : Int)) hn hb (by omega) F (j - 1) (sw l j (j - 1)) (by rw [sw_len, hl]) (by omega) (by omega) (by omega) (hlow.rg g) ins
              rw [if_pos (by simp; omega), r1]
              exact ⟨r, rfl, r2, r3⟩
            · rw [if_neg (by simp; omega)]
              exact ⟨_, rfl, Mv.refl, fun p q p1 p2 p3 => by
                have : p = q := by omega
                subst this; exact Int.le_refl _⟩
          obtain ⟨t, t1, t2⟩ : ∃ t, f98_p16_1 F 0 n a b j s r = some t ∧ Mv j b r t := by
            unfold f98_p16_1
            rw [wsub (by omega) (by omega), w64_succ (by omega)]
            by_cases h2 : 2 ≤ b - j
            · obtain ⟨t, t1, t2⟩ := f98_right (F := F) (a := a) (b := b) (c := j) (x := (j : Int)) (y := (s : Int)) hn hb F (j + 1) r (by rw [r2.len, sw_len, hl]) (by omega) (by omega) (by omega)
              rw [if_pos (by simp; omega), t1]
              exact ⟨t, rfl, t2⟩
            · rw [if_neg (by simp; omega)]
              exact ⟨_, rfl, Mv.refl⟩
          have g2 := (g.trans r2).trans (t2.mono (by omega) (Nat.le_refl _))
          obtain ⟨z, u, z1, z2, z3⟩ := ih j (s + 1) t (by rw [g2.len, hl]) (by omega) (by omega) (by omega) (by omega) (fun p q p1 p2 p3 => by
            rw [t2.out p (by omega), t2.out q (by omega)]
            exact r3 p q p1 p2 p3) (hlow.rg g2)
          rw [r1, Option.bind_some, t1, Option.bind_some, w64_succ (by omega), z1]
          exact ⟨z, u, rfl, g2.trans z2, z3⟩
    · rw [if_neg (by simp; omega)]
      exact ⟨_, l, rfl, Mv.refl, Or.inr (Or.inr rfl)⟩
theorem f98_eq {F n a b : Nat} (hn : n < 100000) (hF : n < F) (hF5 : 5 < F) (hab : a < b) (hb : b ≤ n) {l : List Int} (hl : l.length = n) (hlow : Low a b l) : ∃ z r, f98 F 0 n a b l = some (z, r) ∧ Mv a b l r ∧ (z = true → So a b r) := by
  unfold f98
  obtain ⟨z, r, z1, z2, z3⟩ := f98_loop (F := F) (a := a) (b := b) hn hF hb F (a + 1) 0 l hl (by omega) (by omega) (by omega) (by omega) (fun p q p1 p2 p3 => by
    have : p = q := by omega
    subst this; exact Int.le_refl _) hlow
  rw [w64_succ (by omega), show f98_p1_8 F 0 n a b F ((a + 1 : Nat) : Int) 0 l = some z from z1, Option.bind_some]
  rcases z3 with ⟨rfl, h⟩ | rfl | rfl
  · exact ⟨true, r, rfl, z2, fun _ => h⟩
  · exact ⟨false, r, rfl, z2, fun h => by cases h⟩
  · exact ⟨false, r, rfl, z2, fun h => by cases h⟩
end
section
/-- Parts by what is not greater than the first number. -/
theorem eqUp {F n a j : Nat} {l : List Int} (hn : n < 100000) (hl : l.length = n) (ha : a < n) (hj : j < n) : ∀ (k i : Nat), i ≤ j + 1 → j + 1 < k + i → ∃ m : Nat, f100_p4_1 F 0 n a j l k i = some (m : Int) ∧ i ≤ m ∧ m ≤ j + 1 ∧ (∀ p, i ≤ p → p < m → nt l p ≤ nt l a) ∧ (m = j + 1 ∨ nt l a < nt l m) := by
  intro k
  induction k with
  | zero => intro i _ h; omega
  | succ k ih =>
    intro i h1 h2
    unfold f100_p4_1
    by_cases hi : i ≤ j
    · rw [if_pos (by simp; omega), rq ha, ld (by omega), Option.bind_some, rq (by omega), ld (by omega), Option.bind_some, f99_eq, Option.bind_some]
      by_cases hlt : nt l a < nt l i
      · rw [if_pos (decide_eq_true hlt)]
        exact ⟨i, rfl, Nat.le_refl _, h1, fun p p1 p2 => by omega, Or.inr hlt⟩
      · rw [if_neg (by simpa using hlt), w64_succ (by omega)]
        obtain ⟨m, m1, m2, m3, m4, m5⟩ := ih (i + 1) (by omega) (by omega)
        refine ⟨m, m1, by omega, m3, fun p p1 p2 => ?_, m5⟩
        by_cases hp : p = i
        · subst hp; omega
        · exact m4 p (by omega) p2
    · rw [if_neg (by simp; omega)]
      exact ⟨i, rfl, Nat.le_refl _, h1, fun p p1 p2 => by omega, Or.inl (by omega)⟩
theorem eqDn {F n a i : Nat} {l : List Int} (hn : n < 100000) (hl : l.length = n) (ha : a < n) (hi0 : 0 < i) : ∀ (k j : Nat), j < n → i ≤ j + 1 → j + 1 < k + i → ∃ m : Nat, f100_p8_1 F 0 n a i l k j = some (m : Int) ∧ m ≤ j ∧ i ≤ m + 1 ∧ (∀ p, m < p → p ≤ j → nt l a < nt l p) ∧ (m < i ∨ nt l m ≤ nt l a) := by
  intro k
  induction k with
  | zero => intro j _ _ h; omega
  | succ k ih =>
    intro j hj h1 h2
    unfold f100_p8_1
    by_cases hij : i ≤ j
    · rw [if_pos (by simp; omega), rq ha, ld (by omega), Option.bind_some, rq (by omega), ld (by omega), Option.bind_some, f99_eq, Option.bind_some]
      by_cases hlt : nt l a < nt l j
      · rw [if_pos (decide_eq_true hlt), wm (by omega) (by omega)]
        obtain ⟨m, m1, m2, m3, m4, m5⟩ := ih (j - 1) (by omega) (by omega) (by omega)
        refine ⟨m, m1, by omega, m3, fun p p1 p2 => ?_, m5⟩
        by_cases hp : p = j
        · subst hp; exact hlt
        · exact m4 p p1 (by omega)
      · rw [if_neg (by simpa using hlt)]
        exact ⟨j, rfl, Nat.le_refl _, h1, fun p p1 p2 => by omega, Or.inr (by omega)⟩
    · rw [if_neg (by simp; omega)]
      exact ⟨j, rfl, Nat.le_refl _, h1, fun p p1 p2 => by omega, Or.inl (by omega)⟩
theorem eqLoop {F n a b : Nat} (hn : n < 100000) (hF : n + 1 < F) (hb : b ≤ n) : ∀ (k i j : Nat) (l : List Int), l.length = n → a < i → i ≤ j + 1 → j < b → j + 1 < k + i → (∀ p, a ≤ p → p < i → nt l p ≤ nt l a) → (∀ p, j < p → p < b → nt l a < nt l p) →
    ∃ (m : Nat) (r : List Int), f100_p1 F 0 n a k i j l = some ((m : Int), r) ∧ i ≤ m ∧ m ≤ b ∧ Mv a b l r ∧ (∀ p, a ≤ p → p < m → nt r p ≤ nt l a) ∧ (∀ p, m ≤ p → p < b → nt l a < nt r p) := by
  intro k
  induction k with
  | zero => intro i j l _ _ _ _ h; omega
  | succ k ih =>
    intro i j l hl h1 h2 h3 h4 h5 h6
    obtain ⟨u, u1, u2, u3, u4, u5⟩ := eqUp (F := F) (a := a) (j := j) hn hl (by omega) (by omega) F i h2 (by omega)
    obtain ⟨d, d1, d2, d3, d4, d5⟩ := eqDn (F := F) (a := a) (i := u) hn hl (by omega) (by omega) F j (by omega) (by omega) (by omega)
    unfold f100_p1
    rw [u1, Option.bind_some, d1, Option.bind_some]
    by_cases hud : d < u
    · rw [if_pos (by simp; omega)]
      refine ⟨u, l, rfl, u2, by omega, Mv.refl, fun p p1 p2 => ?_, fun p p1 p2 => ?_⟩
      · by_cases hp : p < i
        · exact h5 p p1 hp
        · exact u4 p (by omega) p2
      · by_cases hp : j < p
        · exact h6 p hp p2
        · exact d4 p (by omega) (by omega)
    · have hul : nt l a < nt l u := by rcases u5 with u5 | u5 <;> omega
      have hdl : nt l d ≤ nt l a := by rcases d5 with d5 | d5 <;> omega
      have hne : u ≠ d := fun e => by subst e; omega
      have e1 : nt (sw l u d) d = nt l u := sw_j (by omega) (by omega)
      have e2 : nt (sw l u d) u = nt l d := sw_i (by omega) (by omega)
      have e3 : ∀ k, k ≠ u → k ≠ d → nt (sw l u d) k = nt l k := fun k h1 h2 => sw_o (by omega) (by omega) h1 h2
      have ea := e3 a (by omega) (by omega)
      rw [if_neg (by simp; omega), rq (by omega), ld (by omega), Option.bind_some, rq (by omega), ld (by omega), Option.bind_some, rs (by omega), rt (by omega), sw_eq, w64_succ (by omega), wm (by omega) (by omega)]
      obtain ⟨m, r, m1, m2, m3, m4, m5, m6⟩ := ih (u + 1) (d - 1) (sw l u d) (by rw [sw_len, hl]) (by omega) (by omega) (by omega) (by omega) (fun p p1 p2 => by
        rw [ea]
        by_cases hp : p = u
        · rw [hp, e2]; exact hdl
        · rw [e3 p hp (by omega)]
          by_cases hpi : p < i
          · exact h5 p p1 hpi
          · exact u4 p (by omega) (by omega)) (fun p p1 p2 => by
        rw [ea]
        by_cases hp : p = d
        · rw [hp, e1]; exact hul
        · rw [e3 p (by omega) hp]
          by_cases hpj : j < p
          · exact h6 p hpj p2
          · exact d4 p (by omega) (by omega))
      rw [ea] at m5 m6
      exact ⟨m, r, m1, by omega, m3, (Mv.sw (by omega) (by omega) (by omega)).trans m4, m5, m6⟩
theorem f100_eq {F n a b p : Nat} (hn : n < 100000) (hF : n + 1 < F) (hab : a < b) (hb : b ≤ n) (hp : a ≤ p ∧ p < b) {l : List Int} (hl : l.length = n) :
    ∃ (m : Nat) (r : List Int), f100 F 0 n a b p l = some ((m : Int), r) ∧ a < m ∧ m ≤ b ∧ Mv a b l r ∧ (∀ q, a ≤ q → q < m → nt r q ≤ nt l p) ∧ (∀ q, m ≤ q → q < b → nt l p < nt r q) := by
  unfold f100
  have ea : nt (sw l a p) a = nt l p := sw_i (by omega) (by omega)
  obtain ⟨m, r, m1, m2, m3, m4, m5, m6⟩ := eqLoop (F := F) (a := a) hn hF hb F (a + 1) (b - 1) (sw l a p) (by rw [sw_len, hl]) (by omega) (by omega) (by omega) (by omega) (fun q q1 q2 => by
    have : q = a := by omega
    subst this; exact Int.le_refl _) (fun q q1 q2 => by omega)
  rw [rq (by omega), ld (by omega), Option.bind_some, rq (by omega), ld (by omega), Option.bind_some, rs (by omega), rt (by omega), sw_eq, w64_succ (by omega), wm (by omega) (by omega), m1]
  rw [ea] at m5 m6
  exact ⟨m, r, rfl, by omega, m3, (Mv.sw (by omega) (by omega) (by omega)).trans m4, m5, m6⟩
/-- Parts by what is less than the first number. -/
theorem ltUp {F n a j : Nat} {l : List Int} (hn : n < 100000) (hl : l.length = n) (ha : a < n) (hj : j < n) : ∀ (k i : Nat), i ≤ j + 1 → j + 1 < k + i → ∃ m : Nat, f101_p13_1 F 0 n a j l k i = some (m : Int) ∧ i ≤ m ∧ m ≤ j + 1 ∧ (∀ p, i ≤ p → p < m → nt l p < nt l a) ∧ (m = j + 1 ∨ nt l a ≤ nt l m) := by
  intro k
  induction k with
  | zero => intro i _ h; omega
  | succ k ih =>
    intro i h1 h2
    unfold f101_p13_1
    by_cases hi : i ≤ j
    · rw [if_pos (by simp; omega), rq (by omega), ld (by omega), Option.bind_some, rq ha, ld (by omega), Option.bind_some, f99_eq, Option.bind_some]
      by_cases hlt : nt l i < nt l a
      · rw [if_pos (decide_eq_true hlt), w64_succ (by omega)]
        obtain ⟨m, m1, m2, m3, m4, m5⟩ := ih (i + 1) (by omega) (by omega)
        refine ⟨m, m1, by omega, m3, fun p p1 p2 => ?_, m5⟩
        by_cases hp : p = i
        · subst hp; exact hlt
        · exact m4 p (by omega) p2
      · rw [if_neg (by simpa using hlt)]
        exact ⟨i, rfl, Nat.le_refl _, h1, fun p p1 p2 => by omega, Or.inr (by omega)⟩
    · rw [if_neg (by simp; omega)]
      exact ⟨i, rfl, Nat.le_refl _, h1, fun p p1 p2 => by omega, Or.inl (by omega)⟩
theorem ltDn {F n a i : Nat} {l : List Int} (hn : n < 100000) (hl : l.length = n) (ha : a < n) (hi0 : 0 < i) : ∀ (k j : Nat), j < n → i ≤ j + 1 → j + 1 < k + i → ∃ m : Nat, f101_p17_1 F 0 n a i l k j = some (m : Int) ∧ m ≤ j ∧ i ≤ m + 1 ∧ (∀ p, m < p → p ≤ j → nt l a ≤ nt l p) ∧ (m < i ∨ nt l m < nt l a) := by
  intro k
  induction k with
  | zero => intro j _ _ h; omega
  | succ k ih =>
    intro j hj h1 h2
    unfold f101_p17_1
    by_cases hij : i ≤ j
    · rw [if_pos (by simp; omega), rq (by omega), ld (by omega), Option.bind_some, rq ha, ld (by omega), Option.bind_some, f99_eq, Option.bind_some]
      by_cases hlt : nt l j < nt l a
      · rw [if_pos (decide_eq_true hlt)]
        exact ⟨j, rfl, Nat.le_refl _, h1, fun p p1 p2 => by omega, Or.inr hlt⟩
      · rw [if_neg (by simpa using hlt), wm (by omega) (by omega)]
        obtain ⟨m, m1, m2, m3, m4, m5⟩ := ih (j - 1) (by omega) (by omega) (by omega)
        refine ⟨m, m1, by omega, m3, fun p p1 p2 => ?_, m5⟩
        by_cases hp : p = j
        · subst hp; omega
        · exact m4 p p1 (by omega)
    · rw [if_neg (by simp; omega)]
      exact ⟨j, rfl, Nat.le_refl _, h1, fun p p1 p2 => by omega, Or.inl (by omega)⟩
/-- The first round looks at the same. -/
theorem up1 {F n a b p : Nat} {l : List Int} (hb : 0 < b) (hb2 : b < 100000) : ∀ (k : Nat) (i : Int), f101_p1 F 0 n a b l (nt l p) p (nt l a) k i = f101_p13_1 F 0 n a ((b - 1 : Nat) : Int) (sw l a p) k i := by
  intro k
  induction k with
  | zero => intro i; rfl
  | succ k ih =>
    intro i
    unfold f101_p1 f101_p13_1
    simp only [ih, sw_eq, wm hb (by omega)]
theorem dn1 {F n a p : Nat} {l : List Int} {x : Int} : ∀ (k : Nat) (j : Int), f101_p5 F 0 n a x l (nt l p) p (nt l a) k j = f101_p17_1 F 0 n a x (sw l a p) k j := by
  intro k
  induction k with
  | zero => intro i; rfl
  | succ k ih =>
    intro i
    unfold f101_p5 f101_p17_1
    simp only [ih, sw_eq]
theorem ltLoop {F n a b : Nat} (hn : n < 100000) (hF : n + 1 < F) (hb : b ≤ n) : ∀ (k i j : Nat) (l : List Int), l.length = n → a < i → i ≤ j + 1 → j < b → j + 1 < k + i → (∀ p, a < p → p < i → nt l p < nt l a) → (∀ p, j < p → p < b → nt l a ≤ nt l p) →
    ∃ (m : Nat) (r : List Int), f101_p10 F 0 n a k i j l = some ((m : Int), r) ∧ a ≤ m ∧ m < b ∧ nt r a = nt l a ∧ Mv a b l r ∧ (∀ p, a < p → p ≤ m → nt r p < nt l a) ∧ (∀ p, m < p → p < b → nt l a ≤ nt r p) := by
  intro k
  induction k with
  | zero => intro i j l _ _ _ _ h; omega
  | succ k ih =>
    intro i j l hl h1 h2 h3 h4 h5 h6
    obtain ⟨u, u1, u2, u3, u4, u5⟩ := ltUp (F := F) (a := a) (j := j) hn hl (by omega) (by omega) F i h2 (by omega)
    obtain ⟨d, d1, d2, d3, d4, d5⟩ := ltDn (F := F) (a := a) (i := u) hn hl (by omega) (by omega) F j (by omega) (by omega) (by omega)
    unfold f101_p10
    rw [u1, Option.bind_some, d1, Option.bind_some]
    by_cases hud : d < u
    · rw [if_pos (by simp; omega)]
      refine ⟨d, l, rfl, by omega, by omega, rfl, Mv.refl, fun p p1 p2 => ?_, fun p p1 p2 => ?_⟩
      · by_cases hp : p < i
        · exact h5 p p1 hp
        · exact u4 p (by omega) (by omega)
      · by_cases hp : j < p
        · exact h6 p hp p2
        · exact d4 p (by omega) (by omega)
    · have hul : nt l a ≤ nt l u := by rcases u5 with u5 | u5 <;> omega
      have hdl : nt l d < nt l a := by rcases d5 with d5 | d5 <;> omega
      have hne : u ≠ d := fun e => by subst e; omega
      have e1 : nt (sw l u d) d = nt l u := sw_j (by omega) (by omega)
      have e2 : nt (sw l u d) u = nt l d := sw_i (by omega) (by omega)
      have e3 : ∀ k, k ≠ u → k ≠ d → nt (sw l u d) k = nt l k := fun k h1 h2 => sw_o (by omega) (by omega) h1 h2
      have ea := e3 a (by omega) (by omega)
      rw [if_neg (by simp; omega), rq (by omega), ld (by omega), Option.bind_some, rq (by omega), ld (by omega), Option.bind_some, rs (by omega), rt (by omega), sw_eq, w64_succ (by omega), wm (by omega) (by omega)]
      obtain ⟨m, r, m1, m2, m3, m4, m5, m6, m7⟩ := ih (u + 1) (d - 1) (sw l u d) (by rw [sw_len, hl]) (by omega) (by omega) (by omega) (by omega) (fun p p1 p2 => by
        rw [ea]
        by_cases hp : p = u
        · rw [hp, e2]; exact hdl
        · rw [e3 p hp (by omega)]
          by_cases hpi : p < i
          · exact h5 p p1 hpi
          · exact u4 p (by omega) (by omega)) (fun p p1 p2 => by
        rw [ea]
        by_cases hp : p = d
        · rw [hp, e1]; exact hul
        · rw [e3 p (by omega) hp]
          by_cases hpj : j < p
          · exact h6 p hpj p2
          · exact d4 p (by omega) (by omega))
      rw [ea] at m4 m6 m7
      exact ⟨m, r, m1, m2, m3, m4, (Mv.sw (by omega) (by omega) (by omega)).trans m5, m6, m7⟩
theorem lastSw {n a b m : Nat} {l r : List Int} (hl : r.length = n) (hb : b ≤ n) (hm : a ≤ m ∧ m < b) (h1 : ∀ p, a < p → p ≤ m → nt r p < nt r a) (h2 : ∀ p, m < p → p < b → nt r a ≤ nt r p) (g : Mv a b l r) :
    Mv a b l (sw r m a) ∧ (∀ p, a ≤ p → p < m → nt (sw r m a) p ≤ nt (sw r m a) m) ∧ (∀ p, m < p → p < b → nt (sw r m a) m ≤ nt (sw r m a) p) := by
  have e1 : nt (sw r m a) a = nt r m := sw_j (by omega) (by omega)
  have e2 : nt (sw r m a) m = nt r a := sw_i (by omega) (by omega)
  have e3 : ∀ k, k ≠ m → k ≠ a → nt (sw r m a) k = nt r k := fun k h1 h2 => sw_o (by omega) (by omega) h1 h2
  refine ⟨g.trans (Mv.sw (by omega) (by omega) (by omega)), fun p p1 p2 => ?_, fun p p1 p2 => ?_⟩
  · rw [e2]
    by_cases hp : p = a
    · rw [hp, e1]; have := h1 m (by omega) (Nat.le_refl _); omega
    · rw [e3 p (by omega) hp]; have := h1 p (by omega) (by omega); omega
  · rw [e2, e3 p (by omega) (by omega)]
    exact h2 p p1 p2
theorem f101_eq {F n a b p : Nat} (hn : n < 100000) (hF : n + 1 < F) (hab : a + 1 < b) (hb : b ≤ n) (hp : a ≤ p ∧ p < b) {l : List Int} (hl : l.length = n) :
    ∃ (m : Nat) (z : Bool) (r : List Int), f101 F 0 n a b p l = some ((m : Int), z, r) ∧ a ≤ m ∧ m < b ∧ Mv a b l r ∧ (∀ q, a ≤ q → q < m → nt r q ≤ nt r m) ∧ (∀ q, m < q → q < b → nt r m ≤ nt r q) := by
  have hls : (sw l a p).length = n := by rw [sw_len, hl]
  have gs : Mv a b l (sw l a p) := Mv.sw (by omega) (by omega) (by omega)
  obtain ⟨u, u1, u2, u3, u4, u5⟩ := ltUp (F := F) (a := a) (j := b - 1) hn hls (by omega) (by omega) F (a + 1) (by omega) (by omega)
  obtain ⟨d, d1, d2, d3, d4, d5⟩ := ltDn (F := F) (a := a) (i := u) hn hls (by omega) (by omega) F (b - 1) (by omega) (by omega) (by omega)
  unfold f101
  rw [rq (by omega), ld (by omega), Option.bind_some, rq (by omega), ld (by omega), Option.bind_some, rs (by omega), rt (by omega), sw_eq, w64_succ (by omega), wm (by omega) (by omega), up1 (by omega) (by omega), u1, Option.bind_some, dn1, d1, Option.bind_some]
  generalize sw l a p = s at *
  by_cases hud : d < u
  · rw [if_pos (by simp; omega), ld (by omega), Option.bind_some, rq (by omega), ld (by omega), Option.bind_some, rs (by omega), rt (by omega), sw_eq]
    obtain ⟨g1, g2, g3⟩ := lastSw (n := n) (a := a) (b := b) (m := d) (l := l) (r := s) hls hb (by omega) (fun q q1 q2 => u4 q (by omega) (by omega)) (fun q q1 q2 => d4 q (by omega) (by omega)) gs
    exact ⟨d, true, _, rfl, by omega, by omega, g1, g2, g3⟩
  · have hul : nt s a ≤ nt s u := by rcases u5 with u5 | u5 <;> omega
    have hdl : nt s d < nt s a := by rcases d5 with d5 | d5 <;> omega
    have hne : u ≠ d := fun e => by subst e; omega
    have e1 : nt (sw s u d) d = nt s u := sw_j (by omega) (by omega)
    have e2 : nt (sw s u d) u = nt s d := sw_i (by omega) (by omega)
    have e3 : ∀ k, k ≠ u → k ≠ d → nt (sw s u d) k = nt s k := fun k h1 h2 => sw_o (by omega) (by omega) h1 h2
    have ea := e3 a (by omega) (by omega)
    obtain ⟨m, r, m1, m2, m3, m4, m5, m6, m7⟩ := ltLoop (F := F) (a := a) hn hF hb F (u + 1) (d - 1) (sw s u d) (by rw [sw_len, hls]) (by omega) (by omega) (by omega) (by omega) (fun q q1 q2 => by
      rw [ea]
      by_cases hq : q = u
      · rw [hq, e2]; exact hdl
      · rw [e3 q hq (by omega)]; exact u4 q (by omega) (by omega)) (fun q q1 q2 => by
      rw [ea]
      by_cases hq : q = d
      · rw [hq, e1]; exact hul
      · rw [e3 q (by omega) hq]; exact d4 q (by omega) (by omega))
    rw [if_neg (by simp; omega), rq (by omega), ld (by omega), Option.bind_some, rq (by omega), ld (by omega), Option.bind_some, rs (by omega), rt (by omega), sw_eq, w64_succ (by omega), wm (by omega) (by omega), m1, Option.bind_some]
    dsimp only
    have hlr : r.length = n := by rw [m5.len, sw_len, hls]
    rw [ea] at m4 m6 m7
    rw [← m4] at m6 m7
    obtain ⟨g1, g2, g3⟩ := lastSw (n := n) (a := a) (b := b) (m := m) (l := l) (r := r) hlr hb (by omega) m6 m7 ((gs.trans (Mv.sw (by omega) (by omega) (by omega))).trans m5)
    rw [ld (by omega), Option.bind_some, rq (by omega), ld (by omega), Option.bind_some, rs (by omega), rt (by omega), sw_eq]
    exact ⟨m, false, _, rfl, by omega, by omega, g1, g2, g3⟩
end
section
theorem So.glue {a b m : Nat} {r : List Int} (h1 : So a m r) (h2 : So (m + 1) b r) (h3 : ∀ p, a ≤ p → p < m → nt r p ≤ nt r m) (h4 : ∀ p, m < p → p < b → nt r m ≤ nt r p) : So a b r := fun i j i1 i2 i3 => by
  rcases Nat.lt_trichotomy i m with hi | hi | hi
  · rcases Nat.lt_trichotomy j m with hj | hj | hj
    · exact h1 i j i1 i2 hj
    · subst hj; exact h3 i i1 hi
    · have := h3 i i1 hi
      have := h4 j hj i3
      omega
  · subst hi
    rcases Nat.lt_or_eq_of_le i2 with hj | hj
    · exact h4 j hj i3
    · subst hj; exact Int.le_refl _
  · exact h2 i j (by omega) i2 i3
theorem So.glue2 {a b m : Nat} {r : List Int} (h1 : So a m r) (h2 : So m b r) (h3 : ∀ p q, a ≤ p → p < m → m ≤ q → q < b → nt r p ≤ nt r q) : So a b r := fun i j i1 i2 i3 => by
  by_cases hj : j < m
  · exact h1 i j i1 i2 hj
  · by_cases hi : i < m
    · exact h3 i j i1 hi (by omega) i3
    · exact h2 i j (by omega) i2 i3
theorem So.rg {a b c d : Nat} {l r : List Int} (h : So a b l) (g : Mv c d l r) (hd : b ≤ c ∨ d ≤ a) : So a b r := fun i j i1 i2 i3 => by
  rw [g.out i (by omega), g.out j (by omega)]
  exact h i j i1 i2 i3
/-- What a call of itself does, for less than so many. -/
def Rec (n w : Nat) (rec : Nat → Nat → Int → Int → Int → List Int → Option (List Int)) : Prop :=
  ∀ (a b : Nat) (lim : Int) (l : List Int), l.length = n → a ≤ b → b ≤ n → 0 ≤ lim ∧ lim ≤ 1000 → Low a b l → b - a < w → ∃ r, rec 0 n a b lim l = some r ∧ Mv a b l r ∧ So a b r
/-- What the rounds that follow do. -/
def Nxt (F n k w : Nat) (rec : Nat → Nat → Int → Int → Int → List Int → Option (List Int)) : Prop :=
  ∀ (a b : Nat) (lim : Int) (wb wp : Bool) (l : List Int), l.length = n → a ≤ b → b ≤ n → 0 ≤ lim ∧ lim ≤ 1000 → Low a b l → b - a < w → ∃ r, f83_p1_7 F rec 0 n k a b lim wb wp l = some r ∧ Mv a b l r ∧ So a b r
/-- After parts: the shorter one by itself, then the other one. -/
theorem split_ok {F n k a b m : Nat} {rec : Nat → Nat → Int → Int → Int → List Int → Option (List Int)} {lim : Int} {z wp : Bool} {r : List Int} (hn : n < 100000) (hb : b ≤ n) (hlim : 0 ≤ lim ∧ lim ≤ 1000) (hr : Rec n (b - a) rec) (hk : Nxt F n k (b - a) rec)
    (hl : r.length = n) (hm : a ≤ m ∧ m < b) (hlow : Low a b r) (h1 : ∀ q, a ≤ q → q < m → nt r q ≤ nt r m) (h2 : ∀ q, m < q → q < b → nt r m ≤ nt r q) :
    ∃ t, (Option.bind (f83_p10_1 F rec 0 n a b lim z m r) fun (x68, x69, x70, x71) => f83_p1_7 F rec 0 n k x68 x69 lim x70 wp x71) = some t ∧ Mv a b r t ∧ So a b t := by
  unfold f83_p10_1
  rw [wsub (by omega) (by omega), wsub (by omega) (by omega), w64_succ (by omega)]
  by_cases hlt : m - a < b - m
  · rw [if_pos (by simp; omega)]
    obtain ⟨s, s1, s2, s3⟩ := hr a m lim r hl hm.1 (by omega) hlim (fun h0 i i1 i2 => hlow h0 i i1 (by omega)) (by omega)
    have hls : s.length = n := by rw [s2.len, hl]
    rw [s1, Option.bind_some, Option.bind_some]
    have em : nt s m = nt r m := s2.out m (by omega)
    have hlow2 : Low (m + 1) b s := fun _ i i1 i2 => by
      rw [Nat.add_sub_cancel, em, s2.out i (by omega)]
      exact h2 i (by omega) i2
    obtain ⟨t, t1, t2, t3⟩ := hk (m + 1) b lim (decide (((m - a : Nat) : Int) ≥ w64 (Int.tdiv (w64 ((b : Int) - a)) 8))) wp s hls (by omega) hb hlim hlow2 (by omega)
    refine ⟨t, t1, (s2.mono (by omega) (by omega)).trans (t2.mono (by omega) (by omega)), So.glue (s3.rg t2 (by omega)) t3 (fun q q1 q2 => ?_) (fun q q1 q2 => ?_)⟩
    · rw [t2.out q (by omega), t2.out m (by omega), em]
      obtain ⟨j, j1, j2, j3⟩ := s2.src q q1 q2
      rw [j3]; exact h1 j j1 j2
    · rw [t2.out m (by omega), em]
      obtain ⟨j, j1, j2, j3⟩ := t2.src q (by omega) q2
      rw [j3, s2.out j (by omega)]; exact h2 j (by omega) j2
  · rw [if_neg (by simp; omega)]
    obtain ⟨s, s1, s2, s3⟩ := hr (m + 1) b lim r hl (by omega) hb hlim (fun h0 i i1 i2 => by
      rw [Nat.add_sub_cancel]; exact h2 i (by omega) i2) (by omega)
    have hls : s.length = n := by rw [s2.len, hl]
    rw [s1, Option.bind_some, Option.bind_some]
    have em : nt s m = nt r m := s2.out m (by omega)
    have hlow2 : Low a m s := fun h0 i i1 i2 => by
      rw [s2.out (a - 1) (by omega), s2.out i (by omega)]
      exact hlow h0 i i1 (by omega)
    obtain ⟨t, t1, t2, t3⟩ := hk a m lim (decide (((b - m : Nat) : Int) ≥ w64 (Int.tdiv (w64 ((b : Int) - a)) 8))) wp s hls (by omega) (by omega) hlim hlow2 (by omega)
    refine ⟨t, t1, (s2.mono (by omega) (by omega)).trans (t2.mono (by omega) (by omega)), So.glue t3 (s3.rg t2 (by omega)) (fun q q1 q2 => ?_) (fun q q1 q2 => ?_)⟩
    · rw [t2.out m (by omega), em]
      obtain ⟨j, j1, j2, j3⟩ := t2.src q q1 q2
      rw [j3, s2.out j (by omega)]; exact h1 j j1 j2
    · rw [t2.out m (by omega), t2.out q (by omega), em]
      obtain ⟨j, j1, j2, j3⟩ := s2.src q (by omega) q2
      rw [j3]; exact h2 j (by omega) j2
/-- The rest of a round, once there is a pivot. -/
def tail (F : Nat) (rec : Nat → Nat → Int → Int → Int → List Int → Option (List Int)) (n k : Nat) (x40 x41 x48 x53 : Int) (x43 x44 : Bool) (x59 : List Int) : Option (List Int) :=
  if (decide (x40 > 0)) = true then
    req ((0 : Int) ≤ (w64 (x40 - 1)) ∧ ((w64 (x40 - 1)) : Int) < ((n : Nat) : Int)) <|
    Option.bind ((x59)[(0 + (Int.toNat (w64 (x40 - 1))))]?) fun x60 =>
    req ((0 : Int) ≤ x53 ∧ (x53 : Int) < ((n : Nat) : Int)) <|
    Option.bind ((x59)[(0 + (Int.toNat x53))]?) fun x61 =>
    Option.bind (f99 F x60 x61) fun x62 =>
    if x62 = true then
      Option.bind (f101 F 0 n x40 x41 x53 x59) fun (x63, x64, x65) =>
      Option.bind (f83_p10_1 F rec 0 n x40 x41 x48 x64 x63 x65) fun (x68, x69, x70, x71) =>
      f83_p1_7 F rec 0 n k x68 x69 x48 x70 x64 x71
    else
      Option.bind (f100 F 0 n x40 x41 x53 x59) fun (x72, x73) =>
      f83_p1_7 F rec 0 n k x72 x41 x48 x43 x44 x73
  else
    Option.bind (f101 F 0 n x40 x41 x53 x59) fun (x74, x75, x76) =>
    Option.bind (f83_p10_1 F rec 0 n x40 x41 x48 x75 x74 x76) fun (x79, x80, x81, x82) =>
    f83_p1_7 F rec 0 n k x79 x80 x48 x81 x75 x82
theorem tail_ok {F n k a b p : Nat} {rec : Nat → Nat → Int → Int → Int → List Int → Option (List Int)} {lim : Int} {wb wp : Bool} {l : List Int} (hn : n < 100000) (hF : n + 1 < F) (hab : a + 1 < b) (hb : b ≤ n) (hlim : 0 ≤ lim ∧ lim ≤ 1000) (hr : Rec n (b - a) rec) (hk : Nxt F n k (b - a) rec)
    (hl : l.length = n) (hp : a ≤ p ∧ p < b) (hlow : Low a b l) : ∃ t, tail F rec n k a b lim p wb wp l = some t ∧ Mv a b l t ∧ So a b t := by
  have part : ∃ t, (Option.bind (f101 F 0 n a b p l) fun (x63, x64, x65) => Option.bind (f83_p10_1 F rec 0 n a b lim x64 x63 x65) fun (x68, x69, x70, x71) => f83_p1_7 F rec 0 n k x68 x69 lim x70 x64 x71) = some t ∧ Mv a b l t ∧ So a b t := by
    obtain ⟨m, z, r, m1, m2, m3, m4, m5, m6⟩ := f101_eq (F := F) hn hF hab hb hp hl
    rw [m1, Option.bind_some]
    dsimp only
    obtain ⟨t, t1, t2, t3⟩ := split_ok (F := F) (k := k) (z := z) (wp := z) hn hb hlim hr hk (by rw [m4.len, hl]) ⟨m2, m3⟩ (hlow.rg m4) m5 m6
    exact ⟨t, t1, m4.trans t2, t3⟩
  unfold tail
  by_cases h0 : 0 < a
  · rw [if_pos (by simp; omega), wm h0 (by omega), rq (by omega), ld (by omega), Option.bind_some, rq (by omega), ld (by omega), Option.bind_some, f99_eq, Option.bind_some]
    by_cases hlt : nt l (a - 1) < nt l p
    · rw [if_pos (decide_eq_true hlt)]; exact part
    · rw [if_neg (by simpa using hlt)]
      obtain ⟨m, r, m1, m2, m3, m4, m5, m6⟩ := f100_eq (F := F) hn hF (by omega) hb hp hl
      have hpa : nt l p = nt l (a - 1) := by
        have := hlow h0 p hp.1 hp.2
        omega
      have hlr : r.length = n := by rw [m4.len, hl]
      have hlow2 := hlow.rg m4
      have ea : nt r (a - 1) = nt l (a - 1) := m4.out _ (by omega)
      have heq : ∀ q, a ≤ q → q < m → nt r q = nt l p := fun q q1 q2 => by
        have := m5 q q1 q2
        have := hlow2 h0 q q1 (by omega)
        omega
      rw [m1, Option.bind_some]
      dsimp only
      obtain ⟨t, t1, t2, t3⟩ := hk m b lim wb wp r hlr m3 hb hlim (fun _ i i1 i2 => by
        rw [heq (m - 1) (by omega) (by omega)]
        have := m6 i i1 i2
        omega) (by omega)
      refine ⟨t, t1, m4.trans (t2.mono (by omega) (Nat.le_refl _)), So.glue2 (m := m) (fun i j i1 i2 i3 => ?_) t3 (fun i j i1 i2 i3 i4 => ?_)⟩
      · rw [t2.out i (by omega), t2.out j (by omega), heq i i1 (by omega), heq j (by omega) i3]; exact Int.le_refl _
      · rw [t2.out i (by omega), heq i i1 i2]
        obtain ⟨q, q1, q2, q3⟩ := t2.src j i3 i4
        rw [q3]
        have := m6 q q1 q2
        omega
  · rw [if_neg (by simp; omega)]; exact part
theorem round_ok {F n : Nat} {rec : Nat → Nat → Int → Int → Int → List Int → Option (List Int)} (hn : n < 100000) (hF : n + 1 < F) (hF5 : 5 < F) (hP : Pow F n) : ∀ (k w : Nat), Rec n w rec → w < k → Nxt F n k (w + 1) rec := by
  intro k
  induction k with
  | zero => intro w _ hw; omega
  | succ k ih =>
    intro w hr hw a b lim wb wp l hl hab hb hlim hlow hlt
    unfold f83_p1_7
    rw [wsub hab (by omega)]
    by_cases h12 : b - a ≤ 12
    · obtain ⟨r, r1, r2, r3⟩ := f93_srt (F := F) hn (by omega) hab hb hl
      rw [if_pos (by simp; omega), r1]
      exact ⟨r, rfl, r2, r3⟩
    · rw [if_neg (by simp; omega)]
      by_cases h0 : lim = 0
      · obtain ⟨r, r1, r2, r3⟩ := f94_srt (F := F) (a := a) (b := b) hn (by omega) (by omega) hb hl
        rw [if_pos (by simpa using h0), r1]
        exact ⟨r, rfl, r2, r3⟩
      · rw [if_neg (by simpa using h0)]
        have hr2 : Rec n (b - a) rec := fun a' b' lim' l' c1 c2 c3 c4 c5 c6 => hr a' b' lim' l' c1 c2 c3 c4 c5 (by omega)
        have hk2 : Nxt F n k (b - a) rec := fun a' b' lim' wb' wp' l' c1 c2 c3 c4 c5 c6 => by
          have hw' : b - a - 1 < k := by omega
          have hr3 : Rec n (b - a - 1) rec := fun a' b' lim' l' c1 c2 c3 c4 c5 c6 => hr a' b' lim' l' c1 c2 c3 c4 c5 (by omega)
          exact ih (b - a - 1) hr3 hw' a' b' lim' wb' wp' l' c1 c2 c3 c4 c5 (by omega)
        obtain ⟨lim2, l1, e1, e2, e3⟩ : ∃ lim2 l1, f83_p5_1 F 0 n a b lim wb wp l = some (lim2, l1) ∧ (0 ≤ lim2 ∧ lim2 ≤ 1000) ∧ Mv a b l l1 := by
          unfold f83_p5_1
          cases wb with
          | true => exact ⟨lim, l, rfl, hlim, Mv.refl⟩
          | false =>
            obtain ⟨r, r1, r2⟩ := f95_rg (F := F) hn (by omega) hP hab hb hl
            rw [if_neg (by decide), r1]
            exact ⟨_, r, rfl, by rw [w64_in (by omega)]; omega, r2⟩
        have hl1 : l1.length = n := by rw [e3.len, hl]
        obtain ⟨p, hint, p1, p2, p3⟩ := f96_eq (F := F) (a := a) (b := b) hn (by omega) hb hl1
        obtain ⟨q, hint2, l2, q1, q2, q3⟩ : ∃ (q : Nat) (hint2 : Int) (l2 : List Int), f83_p6_1 F 0 n a b lim2 wb wp p hint l1 = some ((q : Int), hint2, l2) ∧ (a ≤ q ∧ q < b) ∧ Mv a b l1 l2 := by
          unfold f83_p6_1
          by_cases hh : hint = 2
          · obtain ⟨r, r1, r2⟩ := f97_rg (F := F) (a := a) (b := b) hn (by omega) (by omega) hb hl1
            rw [if_pos (by simpa using hh), r1, wm (by omega) (by omega), wsub p2 (by omega), wsub (by omega) (by omega)]
            exact ⟨b - 1 - (p - a), 1, r, rfl, by omega, r2⟩
          · rw [if_neg (by simpa using hh)]
            exact ⟨p, hint, l1, rfl, ⟨p2, p3⟩, Mv.refl⟩
        have g2 := e3.trans q3
        have hl2 : l2.length = n := by rw [g2.len, hl]
        have fin : ∀ l3, Mv a b l l3 → ∃ t, tail F rec n k a b lim2 q wb wp l3 = some t ∧ Mv a b l t ∧ So a b t := fun l3 g3 => by
          obtain ⟨t, t1, t2, t3⟩ := tail_ok (F := F) (k := k) (wb := wb) (wp := wp) hn hF (by omega) hb e2 hr2 hk2 (l := l3) (by rw [g3.len, hl]) q2 (hlow.rg g3)
          exact ⟨t, t1, g3.trans t2, t3⟩
        rw [e1, Option.bind_some]
        dsimp only
        rw [p1, Option.bind_some]
        dsimp only
        rw [q1, Option.bind_some]
        dsimp only
        cases wb with
        | false => exact fin l2 g2
        | true =>
          cases wp with
          | false => exact fin l2 g2
          | true =>
            rw [if_pos rfl, if_pos rfl]
            obtain ⟨z, s, s1, s2, s3⟩ : ∃ (z : Bool) (s : List Int), f83_p7_1 F 0 n a b lim2 true true q hint2 l2 = some (if z then .c0 s else .c1 s) ∧ Mv a b l2 s ∧ (z = true → So a b s) := by
              unfold f83_p7_1
              by_cases hh : hint2 = 1
              · obtain ⟨z, s, s1, s2, s3⟩ := f98_eq (F := F) (a := a) (b := b) hn (by omega) hF5 (by omega) hb hl2 (hlow.rg g2)
                rw [if_pos (by simpa using hh), s1, Option.bind_some]
                refine ⟨z, s, ?_, s2, s3⟩
                cases z <;> rfl
              · rw [if_neg (by simpa using hh)]
                exact ⟨false, l2, rfl, Mv.refl, fun h => by cases h⟩
            rw [s1, Option.bind_some]
            cases z with
            | true => exact ⟨s, rfl, g2.trans s2, s3 rfl⟩
            | false => exact fin s (g2.trans s2)
theorem f83_sorts {F n : Nat} (hn : n < 100000) (hF : n + 1 < F) (hF5 : 5 < F) (hP : Pow F n) : ∀ (k : Nat), k ≤ F → Rec n k (f83 F k) := by
  intro k
  induction k with
  | zero => intro _ a b lim l _ _ _ _ _ h; omega
  | succ k ih =>
    intro hk a b lim l hl hab hb hlim hlow hlt
    obtain ⟨r, r1, r2, r3⟩ := round_ok (F := F) hn hF hF5 hP F k (ih (by omega)) (by omega) a b lim true true l hl hab hb hlim hlow hlt
    show ∃ r, f83_b F (f83 F k) 0 n a b lim l = some r ∧ _
    unfold f83_b
    rw [r1]
    exact ⟨r, rfl, r2, r3⟩
def Lim (F N : Nat) : Prop := ∀ n : Nat, n ≤ N → ∃ m : Int, f84 F (IntKind.wrap .u64 (n : Int)) = some m ∧ 0 ≤ m ∧ m ≤ 1000
def limOk (F N : Nat) : Bool := (List.range (N + 1)).all fun (n : Nat) => match f84 F (IntKind.wrap .u64 (n : Int)) with | some m => decide (0 ≤ m ∧ m ≤ 1000) | none => false
theorem Lim.of {F N : Nat} (h : limOk F N = true) : Lim F N := fun n hn => by
  have := (List.all_eq_true.1 h) n (List.mem_range.2 (by omega))
  cases e : f84 F (IntKind.wrap .u64 (n : Int)) with
  | none => rw [e] at this; cases this
  | some m =>
    rw [e] at this
    exact ⟨m, rfl, of_decide_eq_true this⟩
theorem lim2100 : Lim 2100 1000 := Lim.of (by decide +kernel)
theorem sort_some {F : Nat} {l : List Int} (hl : l.length ≤ 1000) (hF : 1002 ≤ F) (hP : Pow F 1000) (hL : Lim F 1000) : ∃ r, f49 F l = some r ∧ r.Perm l ∧ r.Pairwise (· ≤ ·) := by
  obtain ⟨m, m1, m2⟩ := hL l.length hl
  obtain ⟨r, r1, r2, r3⟩ := f83_sorts (F := F) (n := l.length) (by omega) (by omega) (by omega) (fun n h0 hn => hP n h0 (by omega)) F (Nat.le_refl _) 0 l.length m l rfl (Nat.zero_le _) (Nat.le_refl _) m2 (fun h => absurd h (Nat.lt_irrefl 0)) (by omega)
  refine ⟨r, ?_, r2.perm, ?_⟩
  · unfold f49
    rw [m1, Option.bind_some, show f83 F F 0 l.length 0 (l.length : Nat) m l = some r from r1, Option.bind_some]
  · rw [List.pairwise_iff_getElem]
    intro i j hi hj hij
    have hlen := r2.len
    have := r3 i j (Nat.zero_le _) (by omega) (by omega)
    rwa [nt_get hi, nt_get hj] at this
end
section
theorem made2_eq {sz st c : Int} {z t : List Int} (hz : z.length = 4) (hzr : ∀ x ∈ z, 0 ≤ x ∧ x ≤ 255) (ht : t.length = 4) (htr : ∀ x ∈ t, 0 ≤ x ∧ x ≤ 255) (hs : 1 ≤ sz ∧ sz ≤ 30) (hst : 0 ≤ st ∧ st ≤ 40) (hc : 0 ≤ c ∧ c ≤ 255) :
    ∃ a b, f44 2100 z t c sz st = some (a, b) ∧ stk a b = 0 ∧ a.length ≤ 4 ∧ (∀ x ∈ a, 1 ≤ x ∧ x ≤ sz) ∧ (∀ x ∈ b, 0 ≤ x ∧ x ≤ st) := by
  obtain ⟨l, e1, e2, e3, e4, e5⟩ := f44_p1_eq (F := 2100) (by omega) (st := st) (t := t) hz hzr hs hc 2100 0 [] (by omega) (by omega) (by simp) (by omega) (by simp) (by simp)
  obtain ⟨r, r1, r2, r3⟩ := sort_some (F := 2100) (l := l) (by omega) (by omega) pow2100 lim2100
  have hm : ∀ x ∈ r, x ∈ l := fun x hx => r2.mem_iff.1 hx
  have hlen : r.length = l.length := r2.length_eq
  obtain ⟨b, g1, g2, g3⟩ := f44_p6_eq (F := 2100) (c := c) (z := z) (u := r) ht htr hst e2 2100 0 [] (by omega) (by omega) rfl (by simp)
  refine ⟨r, b, ?_, ?_, by omega, fun x hx => e5 x (hm x hx), g3⟩
  · unfold f44
    rw [show f44_p1 2100 sz st c z t 2100 0 [] = some l from e1, Option.bind_some, r1, Option.bind_some, show f44_p6 2100 st l r z t c 2100 0 [] = some b from g1, Option.bind_some, req_pos (by omega), take0, ← hlen, take0]
  · have hasc : r.Pairwise (· < ·) := by
      have hn : r.Nodup := r2.nodup_iff.2 e4
      refine List.Pairwise.imp ?_ (r3.and hn)
      intro a b h
      have := h.1
      have := h.2
      omega
    have hck : ck r = 0 := by
      unfold ck
      rw [if_neg (by omega), if_neg (by omega)]
      exact ckL_asc _ 0 hasc fun x hx => by have := e5 x (hm x hx); omega
    unfold stk
    rw [if_pos hck, if_pos (by omega), if_pos (stOk_iff.2 fun x hx => by have := g3 x hx; omega)]
end
section
/-- What can be made. -/
inductive Md (a : List Int) : Nat → Prop
  | zero : Md a 0
  | add {s : Int} {n : Nat} : s ∈ a → Md a n → Md a (n + s.toNat)
theorem Md.mono {a b : List Int} (h : ∀ x ∈ a, x ∈ b) {n : Nat} (k : Md a n) : Md b n := by
  induction k with
  | zero => exact .zero
  | add hs _ ih => exact .add (h _ hs) ih
theorem Md.times {a : List Int} {s : Int} (hs : s ∈ a) {n : Nat} (h : Md a n) : ∀ c : Nat, Md a (n + c * s.toNat)
  | 0 => by simpa using h
  | c + 1 => by
    have := Md.add hs (Md.times hs h c)
    rwa [Nat.add_assoc, ← Nat.succ_mul] at this
theorem Md.snoc {a : List Int} {s : Int} {m : Nat} (h : Md (a ++ [s]) m) : ∃ n c : Nat, Md a n ∧ m = n + c * s.toNat := by
  induction h with
  | zero => exact ⟨0, 0, .zero, by omega⟩
  | add hs _ ih =>
    obtain ⟨n, c, h1, h2⟩ := ih
    rcases List.mem_append.1 hs with hs | hs
    · exact ⟨_, c, .add hs h1, by omega⟩
    · rw [List.mem_singleton.1 hs]
      exact ⟨n, c + 1, h1, by rw [Nat.succ_mul]; omega⟩
/-- The ring of so many cells for what is made of a. -/
structure Ring (a : List Int) (b : Nat) (L : List Int) : Prop where
  len : L.length = b
  val : ∀ q, q < b → nt L q = -1 ∨ (0 ≤ nt L q ∧ Md a (nt L q).toNat ∧ (nt L q).toNat % b = q)
  low : ∀ n : Nat, Md a n → 0 ≤ nt L (n % b) ∧ nt L (n % b) ≤ n
theorem gcd_look : ((List.range 31).all fun s => (List.range 31).all fun b => if 0 < s ∧ 0 < b then (match f90 2100 (s : Int) (b : Int) with | some d => d == (Nat.gcd s b : Int) | none => false) else true) = true := by decide +kernel
theorem f90_gcd {s b : Nat} (hs : 1 ≤ s ∧ s ≤ 30) (hb : 1 ≤ b ∧ b ≤ 30) : f90 2100 s b = some ((Nat.gcd s b : Nat) : Int) := by
  have h := gcd_look
  simp only [List.all_eq_true, List.mem_range] at h
  have h := h s (by omega) b (by omega)
  rw [if_pos (by omega)] at h
  split at h
  · rename_i d e
    rw [e, eq_of_beq h]
  · cases h
/-- Steps of s around b cells: where they come, and when they come back. -/
def orb (s b : Nat) : Bool :=
  (List.range (b / Nat.gcd s b)).all (fun u => u == 0 || (u * s) % b != 0) && (List.range b).all (fun x => x % Nat.gcd s b != 0 || (List.range (b / Nat.gcd s b)).any fun t => (t * s) % b == x) && (b / Nat.gcd s b * s) % b == 0 && decide (0 < b / Nat.gcd s b)
theorem orb_look : ((List.range 30).all fun s => (List.range 30).all fun b => orb (s + 1) (b + 1)) = true := by decide +kernel
structure Orb (s b d K : Nat) : Prop where
  back : (K * s) % b = 0
  far : ∀ u, 0 < u → u < K → (u * s) % b ≠ 0
  all : ∀ x, x < b → x % d = 0 → ∃ t, t < K ∧ (t * s) % b = x
  pos : 0 < K
theorem Orb.of {s b : Nat} (hs : 1 ≤ s ∧ s ≤ 30) (hb : 1 ≤ b ∧ b ≤ 30) : Orb s b (Nat.gcd s b) (b / Nat.gcd s b) := by
  have h := orb_look
  simp only [List.all_eq_true, List.mem_range] at h
  have h := h (s - 1) (by omega) (b - 1) (by omega)
  rw [show s - 1 + 1 = s by omega, show b - 1 + 1 = b by omega] at h
  unfold orb at h
  simp only [Bool.and_eq_true, List.all_eq_true, List.mem_range, Bool.or_eq_true, beq_iff_eq, bne_iff_ne, ne_eq, List.any_eq_true, decide_eq_true_eq] at h
  obtain ⟨⟨⟨h1, h2⟩, h3⟩, h4⟩ := h
  exact ⟨h3, fun u u1 u2 => by rcases h1 u u2 with h | h <;> omega, fun x x1 x2 => by
    rcases h2 x x1 with h | h
    · exact absurd x2 h
    · exact h, h4⟩
/-- Cell t of the circle that begins at q. -/
def ce (b s q t : Nat) : Nat := (q + t * s) % b
theorem ce_lt {b s q t : Nat} (hb : 0 < b) : ce b s q t < b := Nat.mod_lt _ hb
theorem ce_next {b s q t : Nat} : (ce b s q t + s) % b = ce b s q (t + 1) := by
  unfold ce
  rw [Nat.mod_add_mod, Nat.succ_mul, Nat.add_assoc]
theorem ce_zero {b s q : Nat} (hq : q < b) : ce b s q 0 = q := by unfold ce; rw [Nat.zero_mul, Nat.add_zero, Nat.mod_eq_of_lt hq]
theorem mod_cls {b s d q t : Nat} (hd : d ∣ b) (hds : d ∣ s) : ce b s q t % d = q % d := by
  unfold ce
  rw [Nat.mod_mod_of_dvd _ hd, Nat.add_mod, Nat.mod_eq_zero_of_dvd (Nat.dvd_trans hds (Nat.dvd_mul_left s t)), Nat.add_zero, Nat.mod_mod]
theorem ce_K {b s d K q : Nat} (h : Orb s b d K) (hq : q < b) : ce b s q K = q := by
  unfold ce
  rw [Nat.add_mod, h.back, Nat.add_zero, Nat.mod_mod, Nat.mod_eq_of_lt hq]
theorem ce_far {b s d K q i t : Nat} (h : Orb s b d K) (hi : i < t) (ht : t < K) : ce b s q i ≠ ce b s q t := fun e => by
  unfold ce at e
  have e1 : q + t * s = q + i * s + (t - i) * s := by
    rw [Nat.add_assoc, ← Nat.add_mul, show i + (t - i) = t by omega]
  rw [e1, Nat.add_mod (q + i * s)] at e
  have h0 := h.far (t - i) (by omega) (by omega)
  have hb : 0 < b := by
    rcases Nat.eq_zero_or_pos b with hb | hb
    · subst hb
      exfalso
      obtain ⟨u, hu⟩ : ∃ u, u = (t - i) * s := ⟨_, rfl⟩
      simp only [Nat.mod_zero] at e h0
      omega
    · exact hb
  have l1 := Nat.mod_lt (q + i * s) hb
  have l2 := Nat.mod_lt ((t - i) * s) hb
  generalize (q + i * s) % b = u at *
  generalize (t - i) * s % b = v at *
  by_cases hlt : u + v < b
  · rw [Nat.mod_eq_of_lt hlt] at e; omega
  · rw [Nat.mod_eq_sub_mod (by omega), Nat.mod_eq_of_lt (by omega)] at e; omega
theorem ce_all {b s d K q x : Nat} (h : Orb s b d K) (hd : d ∣ b) (hq : q < b) (hx : x < b) (he : x % d = q % d) : ∃ t, t < K ∧ ce b s q t = x := by
  have hb : 0 < b := by omega
  have hd0 : 0 < d := Nat.pos_of_dvd_of_pos hd hb
  obtain ⟨c, hc⟩ := hd
  have hz : (x + (b - q)) % d = 0 := by
    have h1 : (q + (b - q)) % d = 0 := by rw [show q + (b - q) = b by omega, hc]; exact Nat.mul_mod_right d c
    rw [Nat.add_mod, he, ← Nat.add_mod]; exact h1
  have hz2 : ((x + (b - q)) % b) % d = 0 := by rw [Nat.mod_mod_of_dvd _ ⟨c, hc⟩]; exact hz
  obtain ⟨t, t1, t2⟩ := h.all _ (Nat.mod_lt _ hb) hz2
  refine ⟨t, t1, ?_⟩
  unfold ce
  rw [Nat.add_mod, t2, Nat.mod_eq_of_lt hq]
  by_cases hlt : x + (b - q) < b
  · rw [Nat.mod_eq_of_lt hlt, show q + (x + (b - q)) = x + b by omega, Nat.add_mod_right, Nat.mod_eq_of_lt hx]
  · have e : (x + (b - q)) % b = x + (b - q) - b := by rw [Nat.mod_eq_sub_mod (by omega), Nat.mod_eq_of_lt (by omega)]
    rw [e, show q + (x + (b - q) - b) = x by omega, Nat.mod_eq_of_lt hx]
variable {b s d r : Nat} {a : List Int} {i : Int}
/-- The smallest number of a circle. -/
theorem min_eq {F : Nat} (hb : b ≤ 30) (hd : 1 ≤ d ∧ d ≤ 30) (hr : r < d) {L : List Int} (hL : L.length = b) : ∀ (k j : Nat) (m : Int), 0 < k ∧ b < k + (r + j * d) → r + j * d ≤ 100 →
    (m = -1 ∧ (∀ q, q < b → q < r + j * d → q % d = r → nt L q < 0) ∨ 0 ≤ m ∧ (∃ q, q < b ∧ q % d = r ∧ nt L q = m) ∧ ∀ q, q < b → q < r + j * d → q % d = r → 0 ≤ nt L q → m ≤ nt L q) →
    ∃ v, f68_p13_3 F b s d a i r L k m ((r + j * d : Nat) : Int) = some v ∧ (v = -1 ∧ (∀ q, q < b → q % d = r → nt L q < 0) ∨ 0 ≤ v ∧ (∃ q, q < b ∧ q % d = r ∧ nt L q = v) ∧ ∀ q, q < b → q % d = r → 0 ≤ nt L q → v ≤ nt L q) := by
  intro k
  induction k with
  | zero => intro j m h1; omega
  | succ k ih =>
    intro j m h1 h2 h3
    unfold f68_p13_3
    rw [Int.toNat_natCast]
    have hstep : r + (j + 1) * d = r + j * d + d := by rw [Nat.succ_mul]; omega
    -- the cells of the circle below the next one
    have hcell : ∀ q, q < r + (j + 1) * d → q % d = r → q < r + j * d ∨ q = r + j * d := fun q q1 q2 => by
      have e1 := Nat.div_add_mod q d
      rw [q2] at e1
      have : q / d < j + 1 := by
        rw [Nat.div_lt_iff_lt_mul (by omega)]
        have : q ≤ (j + 1) * d ∨ (j + 1) * d < q := by omega
        rcases this with h | h
        · rcases Nat.lt_or_eq_of_le h with h | h
          · exact h
          · have : q % d = 0 := by rw [h]; exact Nat.mul_mod_left _ _
            omega
        · have e2 : q / d ≥ j + 1 := by rw [ge_iff_le, Nat.le_div_iff_mul_le (by omega)]; omega
          have e3 : d * (j + 1) ≤ d * (q / d) := Nat.mul_le_mul_left _ e2
          rw [Nat.mul_comm d (j + 1)] at e3
          omega
      have e2 : d * (q / d) ≤ d * j := Nat.mul_le_mul_left _ (by omega)
      rw [Nat.mul_comm d j] at e2
      omega
    have hcls : (r + j * d) % d = r := by rw [Nat.add_mul_mod_self_right, Nat.mod_eq_of_lt hr]
    by_cases hq : r + j * d < b
    · have eq : w64 (((r + j * d : Nat) : Int) + d) = ((r + (j + 1) * d : Nat) : Int) := by rw [w64_in (by omega)]; omega
      rw [if_pos (by rw [decide_eq_true_eq]; omega), req_pos (by omega), ld (by omega), Option.bind_some, eq]
      unfold f68_p16_3
      rw [Int.toNat_natCast, ld (by omega)]
      generalize hv : nt L (r + j * d) = v
      by_cases c1 : v ≥ 0
      · rw [if_pos (by simpa using c1)]
        by_cases c2 : m < 0
        · rw [if_pos (by simpa using c2)]
          refine ih (j + 1) v (by omega) (by omega) (Or.inr ⟨c1, ⟨_, hq, hcls, hv⟩, fun q q1 q2 q3 q4 => ?_⟩)
          rcases h3 with ⟨_, h3⟩ | ⟨h3, _⟩
          · rcases hcell q q2 q3 with h | h
            · have := h3 q q1 h q3; omega
            · subst h; omega
          · omega
        · rw [if_neg (by simpa using c2)]
          rcases h3 with ⟨h3, _⟩ | ⟨h3, h4, h5⟩
          · omega
          · by_cases c3 : v < m
            · rw [if_pos (by simpa using c3), req_pos (by omega), Option.bind_some, Option.bind_some]
              refine ih (j + 1) _ (by omega) (by omega) (Or.inr ⟨by omega, ⟨_, hq, hcls, hv⟩, fun q q1 q2 q3 q4 => ?_⟩)
              rcases hcell q q2 q3 with h | h
              · have := h5 q q1 h q3 q4; omega
              · subst h; omega
            · rw [if_neg (by simpa using c3), Option.bind_some]
              refine ih (j + 1) m (by omega) (by omega) (Or.inr ⟨h3, h4, fun q q1 q2 q3 q4 => ?_⟩)
              rcases hcell q q2 q3 with h | h
              · exact h5 q q1 h q3 q4
              · subst h; omega
      · rw [if_neg (by simpa using c1)]
        refine ih (j + 1) m (by omega) (by omega) ?_
        rcases h3 with ⟨h3, h4⟩ | ⟨h3, h4, h5⟩
        · refine Or.inl ⟨h3, fun q q1 q2 q3 => ?_⟩
          rcases hcell q q2 q3 with h | h
          · exact h4 q q1 h q3
          · subst h; omega
        · refine Or.inr ⟨h3, h4, fun q q1 q2 q3 q4 => ?_⟩
          rcases hcell q q2 q3 with h | h
          · exact h5 q q1 h q3 q4
          · subst h; omega
    · rw [if_neg (by rw [decide_eq_true_eq]; omega)]
      refine ⟨m, rfl, ?_⟩
      rcases h3 with ⟨h3, h4⟩ | ⟨h3, h4, h5⟩
      · exact Or.inl ⟨h3, fun q q1 q2 => h4 q q1 (by omega) q2⟩
      · exact Or.inr ⟨h3, h4, fun q q1 q2 q3 => h5 q q1 (by omega) q2 q3⟩
/-- Half way around a circle: t steps are done, from q on. -/
structure Half (A : List Int) (b s d r q : Nat) (n0 M : Int) (L0 : List Int) (t : Nat) (m : Int) (L : List Int) : Prop where
  len : L.length = b
  val : ∀ x, x < b → nt L x = -1 ∨ (0 ≤ nt L x ∧ Md A (nt L x).toNat ∧ (nt L x).toNat % b = x)
  at_ : m = nt L (ce b s q (t - 1))
  pos : 0 ≤ m
  other : ∀ x, x < b → x % d ≠ r → nt L x = nt L0 x
  le : ∀ x, x < b → 0 ≤ nt L0 x → 0 ≤ nt L x ∧ nt L x ≤ nt L0 x
  step : ∀ i, 0 < i → i < t → 0 ≤ nt L (ce b s q i) ∧ nt L (ce b s q i) ≤ nt L (ce b s q (i - 1)) + s
  first : nt L q = n0
  min : ∀ x, x < b → x % d = r → 0 ≤ nt L x → n0 ≤ nt L x
  bd : ∀ x, x < b → nt L x ≤ M + 30 * t
theorem walk_eq {F : Nat} {A : List Int} (hb : 1 ≤ b ∧ b ≤ 30) (hs : 1 ≤ s ∧ s ≤ 30) (hsA : (s : Int) ∈ A) (hd : 1 ≤ d ∧ d ≤ 30) (hdb : d ∣ b) (hds : d ∣ s) (ho : Orb s b d (b / d)) {q : Nat} (hq : q < b) (hqr : q % d = r) {n0 M : Int} (hM : 0 ≤ M ∧ M ≤ 1000000) {L0 : List Int} :
    ∀ (k t : Nat) (m : Int) (L : List Int), 31 < k + t → 0 < t → t ≤ b / d → Half A b s d r q n0 M L0 t m L → ∃ m' L', f68_p18_3 F b s d a i r k m t L = some L' ∧ Half A b s d r q n0 M L0 (b / d) m' L' := by
  have hdl : b / d ≤ 30 := Nat.le_trans (Nat.div_le_self _ _) hb.2
  have hdiv : w64 (Int.tdiv (b : Int) (d : Int)) = ((b / d : Nat) : Int) := by
    rw [Int.tdiv_eq_ediv_of_nonneg (by omega), ← Int.natCast_ediv, w64_nat (by omega)]
  intro k
  induction k with
  | zero => intro t m L h1 h2 h3; omega
  | succ k ih =>
    intro t m L h1 h2 h3 h
    have hm := h.pos
    have hbd := h.bd (ce b s q (t - 1)) (ce_lt (by omega))
    rw [← h.at_] at hbd
    unfold f68_p18_3
    rw [if_pos (by simpa using hm), req_pos (by omega), hdiv]
    by_cases ht : t < b / d
    · have em : w64 (m + s) = m + s := w64_in (by omega)
      have hlen := h.len
      have hval : m.toNat % b = ce b s q (t - 1) := by
        rcases h.val (ce b s q (t - 1)) (ce_lt (by omega)) with hv | ⟨_, _, hv⟩
        · rw [← h.at_] at hv; omega
        · rw [← h.at_] at hv; exact hv
      have hmd : Md A m.toNat := by
        rcases h.val (ce b s q (t - 1)) (ce_lt (by omega)) with hv | ⟨_, hv, _⟩
        · rw [← h.at_] at hv; omega
        · rw [← h.at_] at hv; exact hv
      have hmd2 : Md A (m + s).toNat := by
        have := Md.add hsA hmd
        rwa [Int.toNat_natCast, show m.toNat + s = (m + s).toNat by omega] at this
      have hcell : (m + s).toNat % b = ce b s q t := by
        have := ce_next (b := b) (s := s) (q := q) (t := t - 1)
        rw [show t - 1 + 1 = t by omega, ← hval, Nat.mod_add_mod] at this
        rw [← this]; congr 1; omega
      have hmod : Int.tmod (m + s) b = ((ce b s q t : Nat) : Int) := by
        rw [Int.tmod_eq_emod_of_nonneg (by omega), ← hcell, Int.natCast_emod, Int.toNat_of_nonneg (by omega)]
      have hc : ce b s q t < b := ce_lt (by omega)
      have hcr : ce b s q t % d = r := by rw [mod_cls hdb hds]; exact hqr
      have hne : ∀ j, j < t → ce b s q j ≠ ce b s q t := fun j hj => ce_far ho hj ht
      have hq0 : ce b s q 0 = q := ce_zero hq
      have hqt : q ≠ ce b s q t := fun e => hne 0 h2 (by rw [hq0]; exact e)
      have hn0 : n0 ≤ m := by
        have := h.min (ce b s q (t - 1)) (ce_lt (by omega)) (by rw [mod_cls hdb hds]; exact hqr)
        rw [← h.at_] at this
        exact this hm
      rw [Int.toNat_natCast, if_pos (by simp; omega), req_pos (by omega), em, hmod, rq hc, ld (by omega), Option.bind_some, w64_succ (by omega)]
      -- the cell takes the new number
      have put : (nt L (ce b s q t) < 0 ∨ m + s ≤ nt L (ce b s q t)) → Half A b s d r q n0 M L0 (t + 1) (m + s) (L.set (ce b s q t) (m + s)) := fun hv => by
        have e1 : ∀ x, nt (L.set (ce b s q t) (m + s)) x = if x = ce b s q t then m + s else nt L x := fun x => nt_set (by omega)
        refine ⟨by rw [List.length_set]; exact hlen, fun x hx => ?_, ?_, by omega, fun x hx hxr => ?_, fun x hx h0 => ?_, fun j j1 j2 => ?_, ?_, fun x hx hxr h0 => ?_, fun x hx => ?_⟩
        · rw [e1]
          by_cases he : x = ce b s q t
          · rw [if_pos he, he]; exact Or.inr ⟨by omega, hmd2, hcell⟩
          · rw [if_neg he]; exact h.val x hx
        · rw [show t + 1 - 1 = t by omega, e1, if_pos rfl]
        · rw [e1, if_neg (by intro he; subst he; exact hxr hcr)]; exact h.other x hx hxr
        · rw [e1]
          have := h.le x hx h0
          by_cases he : x = ce b s q t
          · rw [if_pos he]
            rw [he] at this ⊢
            rcases hv with hv | hv <;> omega
          · rw [if_neg he]; exact this
        · rw [e1, e1]
          by_cases hj : j = t
          · rw [hj, if_pos rfl, if_neg (hne (t - 1) (by omega)), ← h.at_]; omega
          · rw [if_neg (hne j (by omega)), if_neg (hne (j - 1) (by omega))]; exact h.step j j1 (by omega)
        · rw [e1, if_neg hqt]; exact h.first
        · rw [e1] at h0 ⊢
          by_cases he : x = ce b s q t
          · rw [if_pos he]; omega
          · rw [if_neg he] at h0 ⊢; exact h.min x hx hxr h0
        · rw [e1]
          have := h.bd x hx
          by_cases he : x = ce b s q t
          · rw [if_pos he]; omega
          · rw [if_neg he]; omega
      by_cases c1 : nt L (ce b s q t) ≥ 0
      · rw [if_pos (by simpa using c1)]
        unfold f68_p21_7
        rw [em, hmod, Int.toNat_natCast]
        by_cases c2 : nt L (ce b s q t) < m + s
        · rw [if_pos (by simpa using c2), rq hc, ld (by omega), Option.bind_some, Option.bind_some]
          refine ih (t + 1) _ _ (by omega) (by omega) (by omega) ⟨hlen, h.val, by rw [show t + 1 - 1 = t by omega], c1, h.other, h.le, fun j j1 j2 => ?_, h.first, h.min, fun x hx => by have := h.bd x hx; omega⟩
          by_cases hj : j = t
          · rw [hj, ← h.at_]; omega
          · exact h.step j j1 (by omega)
        · rw [if_neg (by simpa using c2), rq hc, Nat.zero_add, Int.toNat_natCast, req_pos (by omega), Option.bind_some]
          exact ih (t + 1) _ _ (by omega) (by omega) (by omega) (put (Or.inr (by omega)))
      · rw [if_neg (by simpa using c1), Nat.zero_add, Int.toNat_natCast, req_pos (by omega)]
        exact ih (t + 1) _ _ (by omega) (by omega) (by omega) (put (Or.inl (by omega)))
    · rw [if_neg (by simp; omega)]
      have : t = b / d := by omega
      subst this
      exact ⟨m, L, rfl, h⟩
/-- Circles below r are done. -/
structure Circ (A : List Int) (b s d : Nat) (M : Int) (L0 : List Int) (r : Nat) (L : List Int) : Prop where
  len : L.length = b
  val : ∀ x, x < b → nt L x = -1 ∨ (0 ≤ nt L x ∧ Md A (nt L x).toNat ∧ (nt L x).toNat % b = x)
  other : ∀ x, x < b → r ≤ x % d → nt L x = nt L0 x
  le : ∀ x, x < b → 0 ≤ nt L0 x → 0 ≤ nt L x ∧ nt L x ≤ nt L0 x
  cl : ∀ x, x < b → x % d < r → 0 ≤ nt L x → 0 ≤ nt L ((x + s) % b) ∧ nt L ((x + s) % b) ≤ nt L x + s
  bd : ∀ x, x < b → nt L x ≤ M + 900 * r
theorem circ_eq {F : Nat} (hF : 2100 ≤ F) {A : List Int} (hb : 1 ≤ b ∧ b ≤ 30) (hs : 1 ≤ s ∧ s ≤ 30) (hsA : (s : Int) ∈ A) (hd : 1 ≤ d ∧ d ≤ 30) (hdb : d ∣ b) (hds : d ∣ s) (ho : Orb s b d (b / d)) {M : Int} (hM : 0 ≤ M ∧ M ≤ 500000) {L0 : List Int} :
    ∀ (k r : Nat) (L : List Int), d < k + r → r ≤ d → Circ A b s d M L0 r L → ∃ L', f68_p9_1 F b s d a i k r L = some L' ∧ Circ A b s d M L0 d L' := by
  have hdl : b / d ≤ 30 := Nat.le_trans (Nat.div_le_self _ _) hb.2
  intro k
  induction k with
  | zero => intro r L h1 h2; omega
  | succ k ih =>
    intro r L h1 h2 h
    unfold f68_p9_1
    by_cases hr : r < d
    · obtain ⟨v, e1, hv⟩ := min_eq (F := F) (s := s) (d := d) (a := a) (i := i) hb.2 hd hr h.len F 0 (-1) (by omega) (by omega) (Or.inl ⟨rfl, fun q q1 q2 q3 => by
        have := Nat.mod_le q d; omega⟩)
      rw [Nat.zero_mul, Nat.add_zero] at e1
      rw [if_pos (by simp; omega), show f68_p13_3 F b s d a i r L F (-1) r = _ from e1, Option.bind_some, w64_succ (by omega)]
      rcases hv with ⟨rfl, hv⟩ | ⟨hv, ⟨q, q1, q2, q3⟩, q4⟩
      · obtain ⟨k', rfl⟩ : ∃ k', F = k' + 1 := ⟨F - 1, by omega⟩
        have e2 : f68_p18_3 (k' + 1) b s d a i r (k' + 1) (-1) 1 L = some L := by
          unfold f68_p18_3
          rw [if_neg (by decide)]
        rw [e2, Option.bind_some]
        refine ih (r + 1) L (by omega) (by omega) ⟨h.len, h.val, fun x hx hxr => h.other x hx (by omega), h.le, fun x hx hxr h0 => ?_, fun x hx => by have := h.bd x hx; omega⟩
        by_cases he : x % d = r
        · have := hv x hx he; omega
        · exact h.cl x hx (by omega) h0
      · have hq0 := ce_zero (b := b) (s := s) q1
        obtain ⟨m', L', e2, hL'⟩ := walk_eq (F := F) (a := a) (i := i) (L0 := L) (n0 := v) (M := M + 900 * r) hb hs hsA hd hdb hds ho q1 q2 (by omega) F 1 v L (by omega) (by omega) ho.pos
          ⟨h.len, h.val, by rw [show (1 : Nat) - 1 = 0 from rfl, hq0, q3], hv, fun x _ _ => rfl, fun x hx h0 => ⟨h0, Int.le_refl _⟩, fun j j1 j2 => by omega, q3, q4, fun x hx => by have := h.bd x hx; omega⟩
        rw [show f68_p18_3 F b s d a i r F v 1 L = _ from e2, Option.bind_some]
        refine ih (r + 1) L' (by omega) (by omega) ⟨hL'.len, hL'.val, fun x hx hxr => ?_, fun x hx h0 => ?_, fun x hx hxr h0 => ?_, fun x hx => by have := hL'.bd x hx; omega⟩
        · rw [hL'.other x hx (by omega)]; exact h.other x hx (by omega)
        · have a1 := h.le x hx h0
          have a2 := hL'.le x hx a1.1
          omega
        · by_cases he : x % d = r
          · obtain ⟨t, t1, t2⟩ := ce_all ho hdb q1 hx (by omega)
            rw [← t2, ce_next]
            by_cases hlast : t + 1 < b / d
            · have := hL'.step (t + 1) (by omega) hlast
              rw [show t + 1 - 1 = t by omega] at this
              exact this
            · have hK : t + 1 = b / d := by omega
              rw [hK, ce_K ho q1, hL'.first]
              have := hL'.min x hx he h0
              rw [t2]; omega
          · have hxs : (x + s) % b % d = x % d := by
              rw [Nat.mod_mod_of_dvd _ hdb, Nat.add_mod, Nat.mod_eq_zero_of_dvd hds, Nat.add_zero, Nat.mod_mod]
            rw [hL'.other x hx he] at h0 ⊢
            rw [hL'.other _ (Nat.mod_lt _ (by omega)) (by omega)]
            exact h.cl x hx (by omega) h0
    · rw [if_neg (by simp; omega)]
      have : r = d := by omega
      subst this
      exact ⟨L, rfl, h⟩
theorem Ring.step {a : List Int} {b s d : Nat} {M : Int} {L0 L : List Int} (hb : 0 < b) (hd : 0 < d) (h : Ring a b L0) (c : Circ (a ++ [(s : Int)]) b s d M L0 d L) : Ring (a ++ [(s : Int)]) b L := by
  refine ⟨c.len, c.val, fun m hm => ?_⟩
  obtain ⟨n, k, hn, rfl⟩ := hm.snoc
  rw [Int.toNat_natCast]
  have key : ∀ k : Nat, 0 ≤ nt L ((n + k * s) % b) ∧ nt L ((n + k * s) % b) ≤ ((n + k * s : Nat) : Int) := by
    intro k
    induction k with
    | zero =>
      have h1 := h.low n hn
      have h2 := c.le (n % b) (Nat.mod_lt _ hb) h1.1
      rw [Nat.zero_mul, Nat.add_zero]; omega
    | succ k ihk =>
      have h1 := c.cl _ (Nat.mod_lt (n + k * s) hb) (Nat.mod_lt _ hd) ihk.1
      rw [Nat.mod_add_mod] at h1
      rw [Nat.succ_mul, ← Nat.add_assoc]; omega
  exact key k
theorem p5i_eq {b : Nat} {a : List Int} (hb : 1 ≤ b ∧ b ≤ 30) (ha : ∀ x ∈ a, 1 ≤ x ∧ x ≤ 30) (h5 : a.length ≤ 5) : ∀ (k i : Nat) (L : List Int), i ≤ a.length → a.length < k + i → Ring (a.take i) b L → (∀ x, x < b → nt L x ≤ 30000 * i) →
    ∃ L', f68_p5 2100 b a k i L = some L' ∧ Ring a b L' := by
  intro k
  induction k with
  | zero => intro i L _ h; omega
  | succ k ih =>
    intro i L h1 h2 hL hbd
    unfold f68_p5
    by_cases hi : i < a.length
    · have hs := ha _ (List.getElem_mem hi)
      obtain ⟨s, es⟩ : ∃ s : Nat, a[i] = s := ⟨a[i].toNat, by omega⟩
      have hs' : 1 ≤ s ∧ s ≤ 30 := by omega
      have e1 := f90_gcd hs' hb
      have hd1 : 0 < Nat.gcd s b := Nat.gcd_pos_of_pos_left _ (by omega)
      have hd2 : Nat.gcd s b ≤ 30 := Nat.le_trans (Nat.gcd_le_left _ (by omega)) hs'.2
      have et : a.take (i + 1) = a.take i ++ [(s : Int)] := by rw [List.take_succ_eq_append_getElem hi, es]
      obtain ⟨L', e2, hL'⟩ := circ_eq (F := 2100) (a := a) (i := (i : Int)) (A := a.take i ++ [(s : Int)]) (Nat.le_refl _) hb hs' (by simp) ⟨hd1, hd2⟩ (Nat.gcd_dvd_right s b) (Nat.gcd_dvd_left s b) (Orb.of hs' hb) (M := 30000 * i) (L0 := L) (by omega) 2100 0 L (by omega) (by omega)
        ⟨hL.len, fun x hx => (hL.val x hx).imp id fun ⟨v1, v2, v3⟩ => ⟨v1, v2.mono fun y hy => by simp [hy], v3⟩, fun x _ _ => rfl, fun x _ h0 => ⟨h0, Int.le_refl _⟩, fun x _ h => by omega, fun x hx => by have := hbd x hx; omega⟩
      rw [if_pos (by simp; omega), at_get hi, Option.bind_some, es, e1, Option.bind_some, show f68_p9_1 2100 b s (Nat.gcd s b : Nat) a i 2100 0 L = _ from e2, Option.bind_some, w64_succ (by omega)]
      have hR := Ring.step (by omega) hd1 hL hL'
      rw [← et] at hR
      exact ih (i + 1) L' (by omega) (by omega) hR fun x hx => by
        have := hL'.bd x hx
        omega
    · rw [if_neg (by simp; omega)]
      have : i = a.length := by omega
      subst this
      rw [List.take_length] at hL
      exact ⟨L, rfl, hL⟩
theorem p1i_eq {F b : Nat} {a : List Int} (hb : b ≤ 30) : ∀ (k x : Nat) (L : List Int), x ≤ b → b < k + x → L.length = b → (∀ y, y < x → nt L y = -1) → ∃ L', f68_p1 F a b k x L = some L' ∧ L'.length = b ∧ (∀ y, y < b → nt L' y = -1) := by
  intro k
  induction k with
  | zero => intro x L _ h; omega
  | succ k ih =>
    intro x L h1 h2 h3 h4
    unfold f68_p1
    rw [Int.toNat_natCast]
    by_cases hx : x < b
    · rw [if_pos (by simp; omega), req_pos (by omega), Nat.zero_add, Int.toNat_natCast, req_pos (by omega), w64_succ (by omega)]
      refine ih (x + 1) _ (by omega) (by omega) (by simpa using h3) fun y hy => ?_
      rw [nt_set (by omega)]
      by_cases he : y = x
      · rw [if_pos he]
      · rw [if_neg he]; exact h4 y (by omega)
    · rw [if_neg (by simp; omega)]
      exact ⟨L, rfl, h3, fun y hy => h4 y (by omega)⟩
/-- The ring is right. -/
theorem f68_ring {b : Nat} {a : List Int} (hb : 1 ≤ b ∧ b ≤ 30) (ha : ∀ x ∈ a, 1 ≤ x ∧ x ≤ 30) (h5 : a.length ≤ 5) : ∃ L, f68 2100 a b = some L ∧ Ring a b L := by
  obtain ⟨L1, e1, l1, b1⟩ := p1i_eq (F := 2100) (a := a) hb.2 2100 0 (List.replicate b 0) (by omega) (by omega) (by simp) (fun y hy => by omega)
  have hn : ∀ x, nt (L1.set 0 0) x = if x = 0 then 0 else nt L1 x := fun x => nt_set (by omega)
  have hR : Ring (a.take 0) b (L1.set 0 0) := by
    refine ⟨by simpa using l1, fun q hq => ?_, fun n h => ?_⟩
    · rw [hn]
      by_cases h0 : q = 0
      · rw [if_pos h0]; exact Or.inr ⟨Int.le_refl _, .zero, by rw [h0]; rfl⟩
      · rw [if_neg h0]; exact Or.inl (b1 q hq)
    · rw [List.take_zero] at h
      cases h with
      | zero => rw [Nat.zero_mod, hn, if_pos rfl]; exact ⟨Int.le_refl _, Int.le_refl _⟩
      | add hs => cases hs
  obtain ⟨L2, e2, hR2⟩ := p5i_eq hb ha h5 2100 0 (L1.set 0 0) (by omega) (by omega) hR (fun x hx => by
    rw [hn]
    by_cases h0 : x = 0
    · rw [if_pos h0]; omega
    · rw [if_neg h0, b1 x hx]; omega)
  unfold f68
  rw [req_pos (by omega), Int.toNat_natCast, show f68_p1 2100 a b 2100 0 (List.replicate b 0) = _ from e1, Option.bind_some, req_pos (by omega), req_pos (by omega), show f68_p5 2100 b a 2100 0 (L1.set 0 0) = _ from e2, Option.bind_some, req_pos (by rw [hR2.len]; omega)]
  refine ⟨L2, ?_, hR2⟩
  rw [← hR2.len, take0]
end
section
theorem Md.last {a : List Int} {x : Nat} (h : Md a x) (hx : x ≠ 0) : ∃ s ∈ a, s.toNat ≤ x ∧ Md a (x - s.toNat) := by
  cases h with
  | zero => exact absurd rfl hx
  | @add s n hs h => exact ⟨s, hs, by omega, by rw [Nat.add_sub_cancel]; exact h⟩
theorem Md.iff {a : List Int} {x : Nat} (hx : x ≠ 0) : Md a x ↔ ∃ s ∈ a, s.toNat ≤ x ∧ Md a (x - s.toNat) :=
  ⟨fun h => h.last hx, fun ⟨s, h1, h2, h3⟩ => by
    have := Md.add h1 h3
    rwa [Nat.sub_add_cancel h2] at this⟩
def bt (R : List Bool) (y : Nat) : Prop := R[y]? = some true
theorem bt_set {R : List Bool} {x y : Nat} {v : Bool} (hx : x < R.length) : bt (R.set x v) y ↔ if y = x then v = true else bt R y := by
  unfold bt
  rw [List.getElem?_set]
  by_cases h : y = x
  · subst h; rw [if_pos rfl, if_pos hx, if_pos rfl]; simp
  · rw [if_neg (fun e => h e.symm), if_neg h]
theorem bget {R : List Bool} {y : Nat} (h : y < R.length) : ∃ v, R[y]? = some v ∧ (v = true ↔ bt R y) := ⟨R[y], List.getElem?_eq_getElem h, by unfold bt; rw [List.getElem?_eq_getElem h]; simp⟩
/-- So many numbers, each true if it can be made. -/
structure Rch (a : List Int) (N : Nat) (R : List Bool) : Prop where
  len : R.length = N + 1
  is : ∀ x, x ≤ N → (bt R x ↔ Md a x)
theorem Rch.eq {a a' : List Int} {N : Nat} {R R' : List Bool} (h : Rch a N R) (h' : Rch a' N R') (he : ∀ x, Md a x ↔ Md a' x) : R = R' := by
  apply List.ext_getElem?
  intro x
  by_cases hx : x ≤ N
  · have h1 := h.is x hx
    have h2 := h'.is x hx
    obtain ⟨v, e1, e2⟩ := bget (R := R) (y := x) (by rw [h.len]; omega)
    obtain ⟨w, e3, e4⟩ := bget (R := R') (y := x) (by rw [h'.len]; omega)
    rw [e1, e3]
    have : v = true ↔ w = true := by rw [e2, e4, h1, h2]; exact he x
    cases v <;> cases w <;> simp_all
  · rw [List.getElem?_eq_none (by rw [h.len]; omega), List.getElem?_eq_none (by rw [h'.len]; omega)]
theorem f54_in {F N x : Nat} {a : List Int} (ha : ∀ y ∈ a, 1 ≤ y ∧ y ≤ 30) (h5 : a.length ≤ 5) (hN : N ≤ 2000) (hx : x ≤ N) : ∀ (k j : Nat) (R : List Bool), j ≤ a.length → a.length < k + j → R.length = N + 1 →
    ∃ v, f54_p5_1 F a N x k j R = some (R.set x v) ∧ (v = true ↔ bt R x ∨ ∃ s ∈ a.drop j, s.toNat ≤ x ∧ bt R (x - s.toNat)) := by
  intro k
  induction k with
  | zero => intro j R _ h; omega
  | succ k ih =>
    intro j R h1 h2 hR
    have eN : Int.toNat (w64 ((N : Int) + 1)) = N + 1 := by rw [w64_succ (by omega), Int.toNat_natCast]
    obtain ⟨v0, g1, g2⟩ := bget (R := R) (y := x) (by omega)
    unfold f54_p5_1
    by_cases hj : j < a.length
    · have hs := ha _ (List.getElem_mem hj)
      obtain ⟨s, es⟩ : ∃ s : Nat, a[j] = s := ⟨a[j].toNat, by omega⟩
      have hdr : ∀ (P : Int → Prop), (∃ s ∈ a.drop j, P s) ↔ P (s : Int) ∨ ∃ s ∈ a.drop (j + 1), P s := fun P => by
        rw [drop_cons hj, es]; simp
      rw [if_pos (by simp; omega), at_get hj, Option.bind_some, es, eN, rq (by omega), Nat.zero_add, Int.toNat_natCast, g1, Option.bind_some, w64_succ (by omega)]
      have nx : ∀ v1 : Bool, ∃ v, f54_p5_1 F a N x k ((j + 1 : Nat) : Int) (R.set x v1) = some (R.set x v) ∧ (v = true ↔ v1 = true ∨ ∃ s ∈ a.drop (j + 1), s.toNat ≤ x ∧ bt R (x - s.toNat)) := fun v1 => by
        obtain ⟨v, e1, e2⟩ := ih (j + 1) (R.set x v1) (by omega) (by omega) (by simpa using hR)
        rw [List.set_set] at e1
        refine ⟨v, e1, ?_⟩
        rw [e2, bt_set (by omega), if_pos rfl]
        have : ∀ s, s ∈ a.drop (j + 1) → (s.toNat ≤ x ∧ bt (R.set x v1) (x - s.toNat) ↔ s.toNat ≤ x ∧ bt R (x - s.toNat)) := fun s hs => by
          have := ha s (List.mem_of_mem_drop hs)
          constructor
          · rintro ⟨p, q⟩
            rw [bt_set (by omega), if_neg (by omega)] at q
            exact ⟨p, q⟩
          · rintro ⟨p, q⟩
            rw [bt_set (by omega), if_neg (by omega)]
            exact ⟨p, q⟩
        constructor
        · rintro (h | ⟨s, hs, h⟩)
          · exact Or.inl h
          · exact Or.inr ⟨s, hs, (this s hs).1 h⟩
        · rintro (h | ⟨s, hs, h⟩)
          · exact Or.inl h
          · exact Or.inr ⟨s, hs, (this s hs).2 h⟩
      cases v0 with
      | true =>
        rw [if_pos rfl, req_pos (by omega)]
        obtain ⟨v, e1, e2⟩ := nx true
        refine ⟨v, e1, ?_⟩
        rw [e2]
        have : bt R x := g2.1 rfl
        simp [this]
      | false =>
        have hnot : ¬ bt R x := fun h => by have := g2.2 h; cases this
        rw [if_neg (by decide)]
        by_cases hle : s ≤ x
        · obtain ⟨v1, g3, g4⟩ := bget (R := R) (y := x - s) (by omega)
          rw [if_pos (by simp; omega), show w64 ((x : Int) - s) = ((x - s : Nat) : Int) by rw [w64_in (by omega)]; omega, rq (by omega), Int.toNat_natCast, Nat.zero_add, g3, Option.bind_some, req_pos (by omega)]
          obtain ⟨v, e1, e2⟩ := nx v1
          refine ⟨v, e1, ?_⟩
          rw [e2, hdr, Int.toNat_natCast, g4]
          simp [hnot, hle]
        · rw [if_neg (by simp; omega), req_pos (by omega)]
          obtain ⟨v, e1, e2⟩ := nx false
          refine ⟨v, e1, ?_⟩
          rw [e2, hdr, Int.toNat_natCast]
          simp [hnot, hle]
    · rw [if_neg (by simp; omega)]
      refine ⟨v0, ?_, ?_⟩
      · congr 1
        apply List.ext_getElem?
        intro y
        rw [List.getElem?_set]
        by_cases hy : x = y
        · subst hy; rw [if_pos rfl, if_pos (by omega), g1]
        · rw [if_neg hy]
      · rw [g2, List.drop_eq_nil_of_le (by omega)]; simp
theorem f54_out {F N : Nat} {a : List Int} (ha : ∀ y ∈ a, 1 ≤ y ∧ y ≤ 30) (h5 : a.length ≤ 5) (hN : N ≤ 2000) (hF : 10 ≤ F) : ∀ (k x : Nat) (R : List Bool), x ≤ N + 1 → N + 1 < k + x → R.length = N + 1 → (∀ y, y < x → (bt R y ↔ Md a y)) →
    ∃ R', f54_p1 F a N k x R = some R' ∧ Rch a N R' := by
  intro k
  induction k with
  | zero => intro x R _ h; omega
  | succ k ih =>
    intro x R h1 h2 hR h
    have eN : Int.toNat (w64 ((N : Int) + 1)) = N + 1 := by rw [w64_succ (by omega), Int.toNat_natCast]
    unfold f54_p1
    rw [eN]
    by_cases hx : x < N + 1
    · rw [if_pos (by rw [decide_eq_true_eq]; omega), rq hx, Nat.zero_add, Int.toNat_natCast, req_pos (by omega), w64_succ (by omega)]
      obtain ⟨v, e1, e2⟩ := f54_in (F := F) (x := x) ha h5 hN (by omega) F 0 (R.set x ((x : Int) == 0)) (by omega) (by omega) (by simpa using hR)
      rw [List.set_set] at e1
      rw [show f54_p5_1 F a N x F 0 (R.set x ((x : Int) == 0)) = _ from e1, Option.bind_some]
      refine ih (x + 1) (R.set x v) (by omega) (by omega) (by simpa using hR) fun y hy => ?_
      rw [bt_set (by omega)]
      by_cases he : y = x
      · subst he
        rw [if_pos rfl, e2, bt_set (by omega), if_pos rfl, List.drop_zero]
        by_cases h0 : y = 0
        · subst h0
          simp [Md.zero]
        · rw [Md.iff h0]
          have e0 : (((y : Nat) : Int) == 0) = false := by simpa using h0
          rw [e0]
          constructor
          · rintro (h | ⟨s, hs, h3, h4⟩)
            · cases h
            · have := ha s hs
              rw [bt_set (by omega), if_neg (by omega)] at h4
              exact ⟨s, hs, h3, (h _ (by omega)).1 h4⟩
          · rintro ⟨s, hs, h3, h4⟩
            have := ha s hs
            refine Or.inr ⟨s, hs, h3, ?_⟩
            rw [bt_set (by omega), if_neg (by omega)]
            exact (h _ (by omega)).2 h4
      · rw [if_neg he]; exact h y (by omega)
    · rw [if_neg (by rw [decide_eq_true_eq]; omega)]
      exact ⟨R, rfl, hR, fun y hy => h y (by omega)⟩
theorem f54_eq {F N : Nat} {a : List Int} (ha : ∀ y ∈ a, 1 ≤ y ∧ y ≤ 30) (h5 : a.length ≤ 5) (hN : N ≤ 2000) (hF : N + 1 < F) (hF2 : 10 ≤ F) : ∃ R, f54 F a N = some R ∧ Rch a N R := by
  obtain ⟨R, e, h⟩ := f54_out (F := F) ha h5 hN hF2 F 0 (List.replicate (N + 1) false) (by omega) (by omega) (by simp) (fun y hy => by omega)
  unfold f54
  rw [w64_succ (by omega), Int.toNat_natCast, req_pos (by omega), show f54_p1 F a N F 0 (List.replicate (N + 1) false) = _ from e, Option.bind_some, req_pos (by rw [h.len]; omega)]
  refine ⟨R, ?_, h⟩
  rw [← h.len, take0]
/-- The ring against a number. -/
theorem Ring.can {a : List Int} {b : Nat} {L : List Int} (h : Ring a b L) (hb : (b : Int) ∈ a) (hb0 : 0 < b) (n : Nat) : Md a n ↔ 0 ≤ nt L (n % b) ∧ nt L (n % b) ≤ n := by
  constructor
  · exact h.low n
  · rintro ⟨h1, h2⟩
    rcases h.val (n % b) (Nat.mod_lt _ hb0) with h3 | ⟨_, h4, h5⟩
    · omega
    · generalize hv : (nt L (n % b)).toNat = v at *
      have e1 := Nat.div_add_mod n b
      have e2 := Nat.div_add_mod v b
      have hle : v ≤ n := by omega
      have hq : v / b ≤ n / b := Nat.div_le_div_right hle
      have := Md.times hb h4 (n / b - v / b)
      rw [Int.toNat_natCast, Nat.sub_mul] at this
      have c1 : n / b * b = b * (n / b) := Nat.mul_comm _ _
      have c2 : v / b * b = b * (v / b) := Nat.mul_comm _ _
      have c3 : v / b * b ≤ n / b * b := Nat.mul_le_mul_right _ hq
      have e3 : v + (n / b * b - v / b * b) = n := by omega
      rw [e3] at this
      exact this
theorem Ring.uniq {a a' : List Int} {b : Nat} {L L' : List Int} (h : Ring a b L) (h' : Ring a' b L') (he : ∀ x, Md a x ↔ Md a' x) : L = L' := by
  have hnt : ∀ q, q < b → nt L q = nt L' q := fun q hq => by
    rcases h.val q hq with h1 | ⟨h1, h2, h3⟩
    · rcases h'.val q hq with g1 | ⟨g1, g2, g3⟩
      · omega
      · have := h.low _ ((he _).2 g2)
        rw [g3] at this; omega
    · have k1 := h'.low _ ((he _).1 h2)
      rw [h3] at k1
      rcases h'.val q hq with g1 | ⟨g1, g2, g3⟩
      · omega
      · have := h.low _ ((he _).2 g2)
        rw [g3] at this; omega
  apply List.ext_getElem?
  intro q
  by_cases hq : q < b
  · have e := hnt q hq
    rw [nt_get (by rw [h.len]; exact hq), nt_get (by rw [h'.len]; exact hq)] at e
    rw [List.getElem?_eq_getElem (by rw [h.len]; exact hq), List.getElem?_eq_getElem (by rw [h'.len]; exact hq), e]
  · rw [List.getElem?_eq_none (by rw [h.len]; omega), List.getElem?_eq_none (by rw [h'.len]; omega)]
theorem f61_eq {F : Nat} {a : List Int} {b : Nat} {L : List Int} (h : Ring a b L) (hb : (b : Int) ∈ a) (hb0 : 0 < b) (n : Nat) : ∃ z, f61 F L n = some z ∧ (z = true ↔ Md a n) := by
  unfold f61
  have hl := h.len
  have hq := Nat.mod_lt n hb0
  have hmod : Int.tmod (n : Int) ((b : Nat) : Int) = ((n % b : Nat) : Int) := by rw [Int.tmod_eq_emod_of_nonneg (by omega), Int.natCast_emod]
  rw [hl, req_pos (by omega), hmod, at_get (by omega), Option.bind_some, h.can hb hb0, ← nt_get (by omega)]
  by_cases h0 : 0 ≤ nt L (n % b)
  · rw [if_pos (by simpa using h0)]
    exact ⟨_, rfl, by simp [h0]⟩
  · rw [if_neg (by simpa using h0)]
    exact ⟨_, rfl, by simp [h0]⟩
/-- No smallest number is greater than 870. -/
theorem countP_lt {α : Type} {p q : α → Bool} : ∀ {l : List α} {x : α}, (∀ y ∈ l, p y = true → q y = true) → x ∈ l → q x = true → p x = false → l.countP p < l.countP q
  | [], x, _, hx, _, _ => by cases hx
  | y :: l, x, h, hx, h1, h2 => by
    rw [List.countP_cons, List.countP_cons]
    have hmono : l.countP p ≤ l.countP q := List.countP_mono_left fun z hz => h z (by simp [hz])
    have hy := h y (by simp)
    rcases List.mem_cons.1 hx with rfl | hx
    · rw [h1, h2]; simp only [Bool.false_eq_true, if_false, if_true]; omega
    · have ih := countP_lt (fun z hz => h z (by simp [hz])) hx h1 h2
      cases hp : p y with
      | true => rw [hy hp]; simp only [if_true]; omega
      | false => simp only [Bool.false_eq_true, if_false]; split <;> omega
theorem Ring.small {a : List Int} {b : Nat} {L : List Int} (h : Ring a b L) (ha : ∀ x ∈ a, 1 ≤ x ∧ x ≤ 30) (hb0 : 0 < b) : ∀ (n : Nat), Md a n → nt L (n % b) = n → n ≤ 30 * (List.range b).countP fun q => decide (0 ≤ nt L q ∧ nt L q < n) := by
  intro n
  induction n using Nat.strongRecOn with
  | ind n ih =>
    intro hm hn
    by_cases h0 : n = 0
    · omega
    · obtain ⟨s, hs, h1, h2⟩ := hm.last h0
      have hs30 := ha s hs
      have k1 := h.low _ h2
      -- the rest is a smallest number, too
      have hn2 : nt L ((n - s.toNat) % b) = ((n - s.toNat : Nat) : Int) := by
        rcases h.val ((n - s.toNat) % b) (Nat.mod_lt _ hb0) with g1 | ⟨g1, g2, g3⟩
        · omega
        · have g4 := h.low _ (Md.add hs g2)
          have e : ((nt L ((n - s.toNat) % b)).toNat + s.toNat) % b = n % b := by
            rw [← Nat.mod_add_mod, g3, Nat.mod_add_mod, Nat.sub_add_cancel h1]
          rw [e, hn] at g4
          omega
      have h3 := ih (n - s.toNat) (by omega) h2 hn2
      have h4 : (List.range b).countP (fun q => decide (0 ≤ nt L q ∧ nt L q < ((n - s.toNat : Nat) : Int))) < (List.range b).countP (fun q => decide (0 ≤ nt L q ∧ nt L q < (n : Int))) :=
        countP_lt (x := (n - s.toNat) % b) (fun y _ hy => by
          rw [decide_eq_true_eq] at hy ⊢; omega) (List.mem_range.2 (Nat.mod_lt _ hb0)) (by rw [decide_eq_true_eq, hn2]; omega) (by rw [decide_eq_false_iff_not, hn2]; omega)
      omega
theorem Ring.bound {a : List Int} {b : Nat} {L : List Int} (h : Ring a b L) (ha : ∀ x ∈ a, 1 ≤ x ∧ x ≤ 30) (hb : 1 ≤ b ∧ b ≤ 30) {q : Nat} (hq : q < b) : nt L q ≤ 30 * (b - 1 : Nat) := by
  rcases h.val q hq with h1 | ⟨h1, h2, h3⟩
  · omega
  · have e : nt L q = ((nt L q).toNat : Int) := by omega
    generalize hn : (nt L q).toNat = n at *
    have hs := h.small ha (by omega) n h2 (by rw [h3]; exact e)
    have hlt : (List.range b).countP (fun x => decide (0 ≤ nt L x ∧ nt L x < (n : Int))) < (List.range b).countP (fun _ => true) :=
      countP_lt (x := q) (fun _ _ _ => rfl) (List.mem_range.2 hq) rfl (by rw [decide_eq_false_iff_not, e]; omega)
    rw [List.countP_true, List.length_range] at hlt
    omega
end
section
theorem f105_p1_eq {F : Nat} {l : List Int} {v : Int} (hl : l.length ≤ 2000) : ∀ (k i : Nat), i ≤ l.length → l.length < k + i → ∃ z, f105_p1 F l v k i = some z ∧ ((∃ j : Nat, z = .c0 j) ∧ v ∈ l.drop i ∨ z = .c1 ∧ v ∉ l.drop i) := by
  intro k
  induction k with
  | zero => intro i _ h; omega
  | succ k ih =>
    intro i h1 h2
    unfold f105_p1
    by_cases hi : i < l.length
    · rw [if_pos (by simp; omega), at_get hi, Option.bind_some, w64_succ (by omega), drop_cons hi]
      by_cases hv : v = l[i]
      · rw [if_pos (by simpa using hv)]
        exact ⟨_, rfl, Or.inl ⟨⟨i, rfl⟩, by rw [← hv]; exact List.mem_cons_self⟩⟩
      · rw [if_neg (by simpa using hv)]
        obtain ⟨z, e, h⟩ := ih (i + 1) (by omega) (by omega)
        refine ⟨z, e, h.imp (fun h => ⟨h.1, List.mem_cons_of_mem _ h.2⟩) fun h => ⟨h.1, fun hm => ?_⟩⟩
        rcases List.mem_cons.1 hm with hm | hm
        · exact hv hm
        · exact h.2 hm
    · rw [if_neg (by simp; omega)]
      exact ⟨_, rfl, Or.inr ⟨rfl, by rw [List.drop_eq_nil_of_le (by omega)]; simp⟩⟩
theorem f91_eq {F : Nat} {l : List Int} {v : Int} (hl : l.length ≤ 1000) (hF : l.length < F) : f91 F l v = some (decide (v ∈ l)) := by
  obtain ⟨z, e, h⟩ := f105_p1_eq (F := F) (l := l) (v := v) (by omega) F 0 (by omega) (by omega)
  rw [List.drop_zero] at h
  unfold f91 f105
  rw [show f105_p1 F l v F 0 = some z from e, Option.bind_some]
  rcases h with ⟨⟨j, rfl⟩, h⟩ | ⟨rfl, h⟩
  · rw [decide_eq_true h]; dsimp only; rw [Option.bind_some, decide_eq_true (by omega)]
  · rw [decide_eq_false h]; rfl
/-- So many numbers from r on, b apart. -/
def rn (b r m : Nat) : List Int := (List.range m).map fun (j : Nat) => ((r + j * b : Nat) : Int)
theorem rn_succ (b r m : Nat) : rn b r (m + 1) = rn b r m ++ [((r + m * b : Nat) : Int)] := by
  unfold rn; rw [List.range_succ, List.map_append]; rfl
theorem rn_len (b r m : Nat) : (rn b r m).length = m := by simp [rn]
/-- The numbers below those of the ring. -/
def gl (b : Nat) (L : List Int) (r : Nat) : List Int := (List.range r).flatMap fun q => rn b q ((nt L q).toNat / b)
theorem gl_succ (b : Nat) (L : List Int) (r : Nat) : gl b L (r + 1) = gl b L r ++ rn b r ((nt L r).toNat / b) := by
  unfold gl; rw [List.range_succ, List.flatMap_append]; simp
theorem f70_p7_eq {F b r m : Nat} {L acc : List Int} (hb : 1 ≤ b ∧ b ≤ 30) (hL : L.length = b) (hm : r + m * b ≤ 2000) (hacc : acc.length ≤ 100000) : ∀ (k j : Nat), j ≤ m → m < k + j → f70_p7_1 F L ((r + m * b : Nat) : Int) r k ((r + j * b : Nat) : Int) (acc ++ rn b r j) = some (acc ++ rn b r m) := by
  intro k
  induction k with
  | zero => intro j _ h; omega
  | succ k ih =>
    intro j h1 h2
    unfold f70_p7_1
    by_cases hj : j < m
    · have hle : (j + 1) * b ≤ m * b := Nat.mul_le_mul_right b (by omega)
      have hs : (j + 1) * b = j * b + b := Nat.succ_mul j b
      have hjb : j ≤ j * b := Nat.le_mul_of_pos_right j (by omega)
      have e : w64 (((r + j * b : Nat) : Int) + ((List.length L : Nat) : Int)) = ((r + (j + 1) * b : Nat) : Int) := by rw [hL, w64_in (by omega)]; omega
      have := ih (j + 1) (by omega) (by omega)
      rw [rn_succ, ← List.append_assoc] at this
      rw [if_pos (by rw [decide_eq_true_eq]; omega), req_pos (by rw [List.length_append, rn_len]; simp; omega), e]
      exact this
    · have : j = m := by omega
      subst this
      rw [if_neg (by rw [decide_eq_true_eq]; omega)]
theorem f70_p3_eq {F b : Nat} {a L : List Int} (hb : 1 ≤ b ∧ b ≤ 30) (hF : 2000 < F) (hR : Ring a b L) (hpos : ∀ q, q < b → 0 ≤ nt L q ∧ nt L q ≤ 30 * (b - 1 : Nat)) : ∀ (k r : Nat), r ≤ b → b < k + r → (gl b L r).length ≤ 30 * r → f70_p3 F L k r (gl b L r) = some (gl b L b) ∧ (gl b L b).length ≤ 900 := by
  have hL := hR.len
  intro k
  induction k with
  | zero => intro r _ h; omega
  | succ k ih =>
    intro r h1 h2 h3
    unfold f70_p3
    by_cases hr : r < b
    · have hp := hpos r hr
      have hv : nt L r = ((r + (nt L r).toNat / b * b : Nat) : Int) := by
        rcases hR.val r hr with h | ⟨_, _, h⟩
        · omega
        · have := Nat.div_add_mod (nt L r).toNat b
          rw [Nat.mul_comm] at this
          omega
      have hdiv : (nt L r).toNat / b ≤ 870 := Nat.le_trans (Nat.div_le_self _ _) (by omega)
      have hmb : r + (nt L r).toNat / b * b ≤ 870 := by omega
      have hlen : (nt L r).toNat / b ≤ 30 := Nat.div_le_of_le_mul (by omega)
      have e := f70_p7_eq (F := F) (b := b) (r := r) (m := (nt L r).toNat / b) (L := L) (acc := gl b L r) hb hL (by omega) (by omega) F 0 (Nat.zero_le _) (Nat.lt_of_le_of_lt hlen (by omega))
      rw [← hv, Nat.zero_mul, Nat.add_zero, show rn b r 0 = [] from rfl, List.append_nil, ← gl_succ] at e
      have hi := ih (r + 1) (by omega) (by omega) (by rw [gl_succ, List.length_append, rn_len]; omega)
      rw [if_pos (by simp; omega), at_get (by omega), Option.bind_some, ← nt_get (by omega), e, Option.bind_some, w64_succ (by omega)]
      exact hi
    · have : r = b := by omega
      subst this
      rw [if_neg (by simp; omega)]
      exact ⟨rfl, by omega⟩
theorem rn_mem {b r m : Nat} {x : Int} : x ∈ rn b r m ↔ ∃ j : Nat, j < m ∧ x = ((r + j * b : Nat) : Int) := by
  unfold rn
  rw [List.mem_map]
  constructor
  · rintro ⟨j, h1, h2⟩; exact ⟨j, List.mem_range.1 h1, h2.symm⟩
  · rintro ⟨j, h1, h2⟩; exact ⟨j, List.mem_range.2 h1, h2.symm⟩
/-- The numbers that cannot be made. -/
structure Gaps (a : List Int) (l : List Int) : Prop where
  so : l.Pairwise (· < ·)
  mem : ∀ x : Int, x ∈ l ↔ 0 ≤ x ∧ ¬ Md a x.toNat
theorem Gaps.uniq {a a' l l' : List Int} (h : Gaps a l) (h' : Gaps a' l') (he : ∀ x, Md a x ↔ Md a' x) : l = l' := by
  have n1 : l.Nodup := h.so.imp fun h => Int.ne_of_lt h
  have n2 : l'.Nodup := h'.so.imp fun h => Int.ne_of_lt h
  have hp : l.Perm l' := (List.perm_ext_iff_of_nodup n1 n2).2 fun x => by rw [h.mem, h'.mem, he]
  exact hp.eq_of_pairwise (fun a b _ _ h1 h2 => absurd h1 (by omega)) h.so h'.so
theorem gl_gaps {a : List Int} {b : Nat} {L : List Int} (hR : Ring a b L) (hb : (b : Int) ∈ a) (hb0 : 0 < b) (hpos : ∀ q, q < b → 0 ≤ nt L q) : (gl b L b).Nodup ∧ ∀ x : Int, x ∈ gl b L b ↔ 0 ≤ x ∧ ¬ Md a x.toNat := by
  have hmod : ∀ q, q < b → (nt L q).toNat % b = q := fun q hq => by
    rcases hR.val q hq with h | ⟨_, _, h⟩
    · have := hpos q hq; omega
    · exact h
  have hcell : ∀ q j, q < b → (q + j * b) % b = q := fun q j hq => by rw [Nat.add_mul_mod_self_right, Nat.mod_eq_of_lt hq]
  have hlt : ∀ q j, q < b → (j < (nt L q).toNat / b ↔ q + j * b < (nt L q).toNat) := fun q j hq => by
    have e1 := Nat.div_add_mod (nt L q).toNat b
    rw [hmod q hq, Nat.mul_comm] at e1
    constructor
    · intro h
      have : (j + 1) * b ≤ (nt L q).toNat / b * b := Nat.mul_le_mul_right b h
      rw [Nat.succ_mul] at this; omega
    · intro h
      false_or_by_contra
      rename_i hn
      have : (nt L q).toNat / b * b ≤ j * b := Nat.mul_le_mul_right b (by omega)
      omega
  constructor
  · have key : ∀ r, r ≤ b → (gl b L r).Nodup := by
      intro r
      induction r with
      | zero => intro _; exact List.nodup_nil
      | succ r ih =>
        intro hr
        rw [gl_succ, List.nodup_append]
        refine ⟨ih (by omega), ?_, fun x hx y hy hxy => ?_⟩
        · unfold rn
          rw [List.Nodup, List.pairwise_map]
          refine (List.nodup_range (n := (nt L r).toNat / b)).imp fun {i j} h he => h ?_
          have : i * b = j * b := by omega
          exact Nat.eq_of_mul_eq_mul_right hb0 this
        · subst hxy
          obtain ⟨j, _, e1⟩ := rn_mem.1 hy
          unfold gl at hx
          obtain ⟨q, hq, hx⟩ := List.mem_flatMap.1 hx
          obtain ⟨j2, _, e2⟩ := rn_mem.1 hx
          have hq := List.mem_range.1 hq
          have e3 : r + j * b = q + j2 * b := by omega
          have h1 := hcell r j (by omega)
          rw [e3, hcell q j2 (by omega)] at h1
          omega
    exact key b (Nat.le_refl _)
  · intro x
    unfold gl
    rw [List.mem_flatMap]
    constructor
    · rintro ⟨q, hq, hx⟩
      obtain ⟨j, j1, rfl⟩ := rn_mem.1 hx
      have hq := List.mem_range.1 hq
      refine ⟨by omega, fun hm => ?_⟩
      have h1 := hR.low _ hm
      rw [Int.toNat_natCast, hcell q j hq] at h1
      have := (hlt q j hq).1 j1
      omega
    · rintro ⟨h0, hn⟩
      obtain ⟨n, rfl⟩ : ∃ n : Nat, x = n := ⟨x.toNat, by omega⟩
      rw [Int.toNat_natCast] at hn
      have hq := Nat.mod_lt n hb0
      have e1 := Nat.div_add_mod n b
      refine ⟨n % b, List.mem_range.2 hq, rn_mem.2 ⟨n / b, ?_, ?_⟩⟩
      · rw [hlt _ _ hq]
        have hc := hR.can hb hb0 n
        have hp := hpos _ hq
        have : ¬ (nt L (n % b) ≤ n) := fun h => hn (hc.2 ⟨hp, h⟩)
        rw [Nat.mul_comm] at e1
        omega
      · rw [Nat.mul_comm] at e1; omega
theorem has_neg {a : List Int} {b : Nat} {L : List Int} (hR : Ring a b L) : (-1 : Int) ∈ L ↔ ∃ q, q < b ∧ nt L q = -1 := by
  have hl := hR.len
  constructor
  · intro h
    obtain ⟨q, hq, e⟩ := List.mem_iff_getElem.1 h
    exact ⟨q, by omega, by rw [nt_get hq, e]⟩
  · rintro ⟨q, hq, e⟩
    rw [nt_get (by omega)] at e
    rw [← e]; exact List.getElem_mem _
/-- Gaps as the program finds them. -/
theorem f70_eq {a : List Int} (hck : ck a = 0) : ∃ (b : Nat) (L : List Int), at? a 0 = some (b : Int) ∧ (b : Int) ∈ a ∧ 1 ≤ b ∧ b ≤ 30 ∧ f68 2100 a b = some L ∧ Ring a b L ∧
    ((-1 : Int) ∈ L ∧ f70 2100 a = some ([], 15) ∨ (∀ q, q < b → 0 ≤ nt L q ∧ nt L q ≤ 30 * (b - 1 : Nat)) ∧ ∃ l, f70 2100 a = some (l, 0) ∧ Gaps a l ∧ l.length ≤ 900 ∧ l.length = (gl b L b).length) := by
  obtain ⟨c1, c2, _⟩ := ck_zero hck
  have ha := ck_all hck
  have hb := ha _ (List.getElem_mem c1)
  obtain ⟨b, eb⟩ : ∃ b : Nat, a[0] = b := ⟨a[0].toNat, by omega⟩
  have hba : (b : Int) ∈ a := by rw [← eb]; exact List.getElem_mem c1
  have hb1 : 1 ≤ b ∧ b ≤ 30 := by omega
  obtain ⟨L, e1, hR⟩ := f68_ring hb1 ha c2
  have e0 : at? a 0 = some (b : Int) := by rw [← eb]; exact at_get c1
  refine ⟨b, L, e0, hba, hb1.1, hb1.2, e1, hR, ?_⟩
  unfold f70
  rw [f26_eq (by omega), Option.bind_some, hck, if_neg (by decide), e0, Option.bind_some, e1, Option.bind_some, f91_eq (by rw [hR.len]; omega) (by rw [hR.len]; omega), Option.bind_some]
  by_cases hneg : (-1 : Int) ∈ L
  · rw [decide_eq_true hneg, if_pos rfl]
    exact Or.inl ⟨hneg, rfl⟩
  · have hpos : ∀ q, q < b → 0 ≤ nt L q ∧ nt L q ≤ 30 * (b - 1 : Nat) := fun q hq => by
      refine ⟨?_, hR.bound ha hb1 hq⟩
      rcases hR.val q hq with h | h
      · exact absurd ((has_neg hR).2 ⟨q, hq, h⟩) hneg
      · exact h.1
    obtain ⟨p3, hlen⟩ := f70_p3_eq (F := 2100) hb1 (by omega) hR hpos 2100 0 (by omega) (by omega) (by simp [gl])
    obtain ⟨hnd, hmem⟩ := gl_gaps hR hba (by omega) fun q hq => (hpos q hq).1
    obtain ⟨r, r1, r2, r3⟩ := sort_some (F := 2100) (l := gl b L b) (by omega) (by omega) pow2100 lim2100
    have hrl : r.length = (gl b L b).length := r2.length_eq
    rw [decide_eq_false hneg, if_neg (by decide), show f70_p3 2100 L 2100 0 [] = some (gl b L b) from p3, Option.bind_some, r1, Option.bind_some, req_pos (by omega), ← hrl, take0]
    refine Or.inr ⟨hpos, r, rfl, ⟨?_, fun x => by rw [r2.mem_iff, hmem]⟩, by omega, rfl⟩
    have hnr : r.Nodup := r2.nodup_iff.2 hnd
    exact (r3.and hnr).imp fun ⟨h1, h2⟩ => Int.lt_iff_le_and_ne.2 ⟨h1, h2⟩
end
section
/-- All sizes have a common divisor above 1. -/
def Com (a : List Int) : Prop := ∃ d : Nat, 2 ≤ d ∧ ∀ x ∈ a, d ∣ x.toNat
theorem Md.dvd {a : List Int} {d : Nat} (h : ∀ x ∈ a, d ∣ x.toNat) {n : Nat} (k : Md a n) : d ∣ n := by
  induction k with
  | zero => exact Nat.dvd_zero d
  | add hs _ ih => exact Nat.dvd_add ih (h _ hs)
theorem gcd_step {A : List Int} {b g s : Nat} (hb : 1 ≤ b) (hgb : g ∣ b) (hg : 1 ≤ g ∧ g ≤ 30) (hs : 1 ≤ s ∧ s ≤ 30) (hsA : (s : Int) ∈ A) (P : ∀ k, ∃ n, Md A n ∧ n % b = (g * k) % b) (k : Nat) : ∃ n, Md A n ∧ n % b = (Nat.gcd s g * k) % b := by
  have ho := Orb.of hs hg
  have heg : Nat.gcd s g ∣ g := Nat.gcd_dvd_right s g
  generalize Nat.gcd s g = e at *
  obtain ⟨t, _, t2⟩ := ho.all ((e * k) % g) (Nat.mod_lt _ (by omega)) (by rw [Nat.mod_mod_of_dvd _ heg]; exact Nat.mul_mod_right e k)
  obtain ⟨w, hw⟩ := hgb
  have e1 := Nat.div_add_mod (e * k) g
  have e2 := Nat.div_add_mod (t * s) g
  rw [t2] at e2
  generalize e * k / g = q1 at *
  generalize t * s / g = q2 at *
  generalize (e * k) % g = x at *
  -- N + t s = e k + b t s
  have hN : g ∣ e * k + (b - 1) * (t * s) := by
    have h1 : e * k + (b - 1) * (t * s) = g * (q1 + w * (t * s)) - g * q2 := by
      have h2 : (b - 1) * (t * s) + t * s = b * (t * s) := by
        rw [← Nat.succ_mul]; congr 1; omega
      have h3 : b * (t * s) = g * (w * (t * s)) := by rw [hw, Nat.mul_assoc]
      rw [Nat.mul_add]
      omega
    rw [h1]
    exact Nat.dvd_sub (Nat.dvd_mul_right g _) (Nat.dvd_mul_right g _)
  obtain ⟨k2, hk2⟩ := hN
  obtain ⟨n, n1, n2⟩ := P k2
  refine ⟨n + t * s, by have := Md.times hsA n1 t; rwa [Int.toNat_natCast] at this, ?_⟩
  rw [← Nat.mod_add_mod, n2, ← hk2, Nat.mod_add_mod]
  have h2 : (b - 1) * (t * s) + t * s = b * (t * s) := by
    rw [← Nat.succ_mul]; congr 1; omega
  rw [Nat.add_assoc, h2, Nat.add_mul_mod_self_left]
theorem gcd_fold {A : List Int} {b : Nat} (hb : 1 ≤ b) : ∀ (l : List Int) (g : Nat), (∀ x ∈ l, x ∈ A ∧ 1 ≤ x ∧ x ≤ 30) → g ∣ b → 1 ≤ g ∧ g ≤ 30 → (∀ k, ∃ n, Md A n ∧ n % b = (g * k) % b) → ∃ g', (∀ x ∈ l, g' ∣ x.toNat) ∧ g' ∣ g ∧ 1 ≤ g' ∧ ∀ k, ∃ n, Md A n ∧ n % b = (g' * k) % b
  | [], g, _, _, h2, P => ⟨g, fun x hx => (by cases hx), Nat.dvd_refl g, h2.1, P⟩
  | x :: l, g, h, h1, h2, P => by
    obtain ⟨hxA, hx⟩ := h x (by simp)
    obtain ⟨s, rfl⟩ : ∃ s : Nat, x = s := ⟨x.toNat, by omega⟩
    have hd := Nat.gcd_dvd_right s g
    have hp : 1 ≤ Nat.gcd s g := Nat.gcd_pos_of_pos_left _ (by omega)
    have hle := Nat.le_of_dvd (by omega) hd
    obtain ⟨g', k1, k2, k3, k4⟩ := gcd_fold hb l (Nat.gcd s g) (fun y hy => h y (by simp [hy])) (Nat.dvd_trans hd h1) ⟨hp, by omega⟩ (gcd_step hb h1 h2 (by omega) hxA P)
    refine ⟨g', fun y hy => ?_, Nat.dvd_trans k2 hd, k3, k4⟩
    rcases List.mem_cons.1 hy with rfl | hy
    · rw [Int.toNat_natCast]; exact Nat.dvd_trans k2 (Nat.gcd_dvd_left s g)
    · exact k1 y hy
theorem Ring.inf {a : List Int} {b : Nat} {L : List Int} (hR : Ring a b L) (ha : ∀ x ∈ a, 1 ≤ x ∧ x ≤ 30) (hb : 1 ≤ b ∧ b ≤ 30) (hba : (b : Int) ∈ a) : (-1 : Int) ∈ L ↔ Com a := by
  constructor
  · intro hneg
    obtain ⟨q, hq, e⟩ := (has_neg hR).1 hneg
    obtain ⟨g', k1, k2, k3, k4⟩ := gcd_fold (A := a) (b := b) hb.1 a b (fun x hx => ⟨hx, ha x hx⟩) (Nat.dvd_refl b) hb (fun k => ⟨0, .zero, by rw [Nat.zero_mod, Nat.mul_mod_right]⟩)
    by_cases h1 : g' = 1
    · subst h1
      obtain ⟨n, n1, n2⟩ := k4 q
      rw [Nat.one_mul, Nat.mod_eq_of_lt hq] at n2
      have := hR.low n n1
      rw [n2] at this; omega
    · exact ⟨g', by omega, k1⟩
  · rintro ⟨d, d2, hd⟩
    have hdb : d ∣ b := by have := hd _ hba; rwa [Int.toNat_natCast] at this
    have hdb2 := Nat.le_of_dvd (by omega) hdb
    refine (has_neg hR).2 ⟨1, by omega, ?_⟩
    rcases hR.val 1 (by omega) with h | ⟨_, h2, h3⟩
    · exact h
    · exfalso
      have h4 := h2.dvd hd
      have h5 : d ∣ (nt L 1).toNat % b := (Nat.dvd_mod_iff hdb).2 h4
      rw [h3] at h5
      have := Nat.le_of_dvd (by omega) h5
      omega
/-- The law's common divisor: all numbers are tried. -/
theorem f85_max {F : Nat} {a : List Int} (h5 : a.length ≤ 40) : ∀ (k i : Nat) (m : Int), i ≤ a.length → a.length < k + i → ∃ v, f85_p2 F a k m i = some v ∧ m ≤ v ∧ (∀ x ∈ a.drop i, x ≤ v) ∧ (v = m ∨ v ∈ a.drop i) := by
  intro k
  induction k with
  | zero => intro i m _ h; omega
  | succ k ih =>
    intro i m h1 h2
    unfold f85_p2
    by_cases hi : i < a.length
    · rw [if_pos (by simp; omega), at_get hi, Option.bind_some, w64_succ (by omega), drop_cons hi]
      obtain ⟨v, e, v1, v2, v3⟩ := ih (i + 1) (if a[i] > m then a[i] else m) (by omega) (by omega)
      refine ⟨v, e, by split at v1 <;> omega, fun x hx => ?_, ?_⟩
      · rcases List.mem_cons.1 hx with rfl | hx
        · split at v1 <;> omega
        · exact v2 x hx
      · rcases v3 with v3 | v3
        · split at v3
          · exact Or.inr (by rw [v3]; exact List.mem_cons_self)
          · exact Or.inl v3
        · exact Or.inr (List.mem_cons_of_mem _ v3)
    · rw [if_neg (by simp; omega)]
      exact ⟨m, rfl, Int.le_refl _, by rw [List.drop_eq_nil_of_le (by omega)]; simp, Or.inl rfl⟩
theorem f85_is {F : Nat} {a : List Int} (h5 : a.length ≤ 40) (h0 : 0 < a.length) (hF : 100 ≤ F) : ∃ v, f85 F a = some v ∧ (∀ x ∈ a, x ≤ v) ∧ v ∈ a := by
  obtain ⟨v, e, v1, v2, v3⟩ := f85_max (F := F) (a := a) h5 F 1 a[0] (by omega) (by omega)
  unfold f85 f85_p0
  rw [if_neg (by simp; omega), Option.bind_some, show at? a 0 = some (a[0]) from at_get h0, Option.bind_some, show f85_p2 F a F a[0] 1 = some v from e, Option.bind_some]
  have ed : a = a[0] :: a.drop 1 := by have := drop_cons h0; rwa [List.drop_zero] at this
  refine ⟨v, rfl, fun x hx => ?_, ?_⟩
  · rw [ed] at hx
    rcases List.mem_cons.1 hx with rfl | hx
    · exact v1
    · exact v2 x hx
  · rcases v3 with v3 | v3
    · rw [v3]; exact List.getElem_mem h0
    · exact List.mem_of_mem_drop v3
theorem f86_eq {F d : Nat} {a : List Int} (h5 : a.length ≤ 40) (hF : 100 ≤ F) (hd : 0 < d) (ha : ∀ x ∈ a, 1 ≤ x ∧ x ≤ 30) : ∃ z, f86 F a d = some z ∧ (z = false ↔ ∀ x ∈ a, d ∣ x.toNat) := by
  have key : ∀ (k i : Nat), i ≤ a.length → a.length < k + i → ∃ z, f104_p1 F a d k i = some z ∧ ((∃ j : Nat, z = .c0 j) ∧ (¬ ∀ x ∈ a.drop i, d ∣ x.toNat) ∨ z = .c1 ∧ ∀ x ∈ a.drop i, d ∣ x.toNat) := by
    intro k
    induction k with
    | zero => intro i _ h; omega
    | succ k ih =>
      intro i h1 h2
      unfold f104_p1
      by_cases hi : i < a.length
      · have hs := ha _ (List.getElem_mem hi)
        obtain ⟨s, es⟩ : ∃ s : Nat, a[i] = s := ⟨a[i].toNat, by omega⟩
        have e : Int.tmod (s : Int) (d : Int) = ((s % d : Nat) : Int) := by rw [Int.tmod_eq_emod_of_nonneg (by omega), Int.natCast_emod]
        unfold f87
        rw [if_pos (by simp; omega), at_get hi, Option.bind_some, es, req_pos (by omega), e, Option.bind_some, w64_succ (by omega), drop_cons hi, es]
        by_cases hz : s % d = 0
        · rw [if_neg (by simp; omega)]
          obtain ⟨z, e1, e2⟩ := ih (i + 1) (by omega) (by omega)
          have hsd : d ∣ ((s : Nat) : Int).toNat := by rw [Int.toNat_natCast]; exact Nat.dvd_of_mod_eq_zero hz
          refine ⟨z, e1, e2.imp (fun h => ⟨h.1, fun hh => h.2 fun x hx => hh x (List.mem_cons_of_mem _ hx)⟩) fun h => ⟨h.1, fun x hx => ?_⟩⟩
          rcases List.mem_cons.1 hx with rfl | hx
          · exact hsd
          · exact h.2 x hx
        · rw [if_pos (by simp; omega)]
          refine ⟨_, rfl, Or.inl ⟨⟨i, rfl⟩, fun h => hz ?_⟩⟩
          have := h _ List.mem_cons_self
          rw [Int.toNat_natCast] at this
          exact Nat.mod_eq_zero_of_dvd this
      · rw [if_neg (by simp; omega)]
        exact ⟨_, rfl, Or.inr ⟨rfl, by rw [List.drop_eq_nil_of_le (by omega)]; simp⟩⟩
  obtain ⟨z, e1, e2⟩ := key F 0 (by omega) (by omega)
  rw [List.drop_zero] at e2
  unfold f86 f104
  rw [show f104_p1 F a d F 0 = some z from e1, Option.bind_some]
  rcases e2 with ⟨⟨j, rfl⟩, h⟩ | ⟨rfl, h⟩
  · exact ⟨true, by dsimp only; rw [Option.bind_some, decide_eq_true (by omega)], by simp [h]⟩
  · exact ⟨false, rfl, by simpa using h⟩
theorem f53_eq {F : Nat} {a : List Int} (h5 : a.length ≤ 40) (h0 : 0 < a.length) (hF : 100 ≤ F) (ha : ∀ x ∈ a, 1 ≤ x ∧ x ≤ 30) : ∃ z, f53 F a = some z ∧ (z = true ↔ Com a) := by
  obtain ⟨v, ev, v1, v2⟩ := f85_is (F := F) h5 h0 hF
  have hv := ha v v2
  have key : ∀ (k d : Nat), 2 ≤ d → (d : Int) ≤ v + 1 ∨ v < 2 ∧ d = 2 → 40 < k + d → (∀ e, 2 ≤ e → e < d → ¬ ∀ x ∈ a, e ∣ x.toNat) → ∃ z, f53_p1 F a k d = some z ∧ (z = .c0 ∧ Com a ∨ z = .c1 ∧ ¬ Com a) := by
    intro k
    induction k with
    | zero => intro d h1 h2 h3; omega
    | succ k ih =>
      intro d h1 h2 h3 h4
      unfold f53_p1
      rw [ev, Option.bind_some]
      by_cases hd : (d : Int) ≤ v
      · obtain ⟨z, e1, e2⟩ := f86_eq (F := F) (d := d) h5 hF (by omega) ha
        rw [if_pos (by simpa using hd), e1, Option.bind_some]
        cases z with
        | false => exact ⟨_, rfl, Or.inl ⟨rfl, d, h1, e2.1 rfl⟩⟩
        | true =>
          rw [if_pos rfl, w64_succ (by omega)]
          refine ih (d + 1) (by omega) (by omega) (by omega) fun e h5 h6 => ?_
          by_cases he : e = d
          · subst he
            intro h
            have := e2.2 h
            cases this
          · exact h4 e h5 (by omega)
      · rw [if_neg (by simpa using hd)]
        refine ⟨_, rfl, Or.inr ⟨rfl, ?_⟩⟩
        rintro ⟨e, he1, he2⟩
        have := Nat.le_of_dvd (by omega) (he2 v v2)
        exact h4 e he1 (by omega) he2
  obtain ⟨z, e1, e2⟩ := key F 2 (by omega) (by omega) (by omega) (fun e h1 h2 => by omega)
  unfold f53
  rw [show f53_p1 F a F 2 = some z from e1, Option.bind_some]
  rcases e2 with ⟨rfl, h⟩ | ⟨rfl, h⟩
  · exact ⟨true, rfl, by simp [h]⟩
  · exact ⟨false, rfl, by simp [h]⟩
/-- Above 870 all numbers can be made. -/
theorem md_big {a : List Int} {b : Nat} {L : List Int} (hR : Ring a b L) (hb : (b : Int) ∈ a) (hb1 : 1 ≤ b ∧ b ≤ 30) (hpos : ∀ q, q < b → 0 ≤ nt L q ∧ nt L q ≤ 30 * (b - 1 : Nat)) {n : Nat} (hn : 870 ≤ n) : Md a n := by
  have hq := Nat.mod_lt n (by omega : 0 < b)
  have := hpos _ hq
  exact (hR.can hb (by omega) n).2 ⟨this.1, by omega⟩
/-- What Gaps answers. -/
theorem gaps_one {a : List Int} (hck : ck a = 0) : ∃ l e, f70 2100 a = some (l, e) ∧ l.length ≤ 900 ∧ (e = 15 ∧ l = [] ∧ Com a ∨ e = 0 ∧ ¬ Com a ∧ Gaps a l) ∧ (∀ x ∈ l, 0 ≤ x ∧ x ≤ 900) := by
  have ha := ck_all hck
  obtain ⟨b, L, e0, hba, hb1, hb2, e1, hR, h⟩ := f70_eq hck
  have hinf := hR.inf ha ⟨hb1, hb2⟩ hba
  rcases h with ⟨hneg, e3⟩ | ⟨hpos, l, e3, hG, hlen, _⟩
  · exact ⟨[], 15, e3, by simp, Or.inl ⟨rfl, rfl, hinf.1 hneg⟩, by simp⟩
  · have hnc : ¬ Com a := fun hc => by
      obtain ⟨q, q1, q2⟩ := (has_neg hR).1 (hinf.2 hc)
      have := hpos q q1
      omega
    refine ⟨l, 0, e3, hlen, Or.inr ⟨rfl, hnc, hG⟩, fun x hx => ?_⟩
    have hm := (hG.mem x).1 hx
    refine ⟨hm.1, ?_⟩
    false_or_by_contra
    exact hm.2 (md_big hR hba ⟨hb1, hb2⟩ hpos (by omega))
end
section
/-- Greatest and Even. -/
theorem last_get {l : List Int} (h : l.length ≠ 0) (hl : l.length ≤ 1000) : ∃ v, at? l (w64 (((List.length l : Nat) : Int) - 1)) = some v ∧ v ∈ l ∧ l.getLast? = some v := by
  have e : w64 (((List.length l : Nat) : Int) - 1) = ((l.length - 1 : Nat) : Int) := by rw [w64_in (by omega)]; omega
  refine ⟨l[l.length - 1], by rw [e]; exact at_get (by omega), List.getElem_mem _, ?_⟩
  rw [List.getLast?_eq_getElem?, List.getElem?_eq_getElem (by omega)]
theorem Md.rest {a : List Int} (hp : a.Pairwise (· < ·)) (h1 : ∀ x ∈ a, 1 ≤ x) {k : Nat} (hk : k < a.length) {n : Nat} (h : Md (a.take k ++ a.drop (k + 1)) n) : (n : Int) ≤ a[k] → Md (a.take k) n := by
  induction h with
  | zero => intro _; exact .zero
  | @add s n hs h ih =>
    intro hle
    have hsm : s ∈ a := by
      rcases List.mem_append.1 hs with h | h
      · exact List.mem_of_mem_take h
      · exact List.mem_of_mem_drop h
    have := h1 s hsm
    rcases List.mem_append.1 hs with hs | hs
    · exact .add hs (ih (by omega))
    · exfalso
      obtain ⟨j, hj, e⟩ := List.mem_iff_getElem.1 hs
      rw [List.length_drop] at hj
      rw [List.getElem_drop] at e
      have := List.pairwise_iff_getElem.1 hp k (k + 1 + j) hk (by omega) (by omega)
      omega
end
section
/-- The ring of the first size. -/
structure First (a : List Int) (b : Nat) (L : List Int) : Prop where
  at0 : at? a 0 = some (b : Int)
  mem : (b : Int) ∈ a
  lo : 1 ≤ b
  hi : b ≤ 30
  run : f68 2100 a b = some L
  ring : Ring a b L
theorem First.of {a : List Int} (hck : ck a = 0) : ∃ b L, First a b L := by
  obtain ⟨b, L, h1, h2, h3, h4, h5, h6, _⟩ := f70_eq hck
  exact ⟨b, L, h1, h2, h3, h4, h5, h6⟩
theorem f60_eq {a L : List Int} {b n : Nat} (hck : ck a = 0) (h : First a b L) (hn : n ≤ 1000) : f60 2100 a n = some (L, 0) := by
  unfold f60
  rw [f26_eq (by omega), Option.bind_some, hck, if_neg (by decide), f67_eq, Option.bind_some, if_pos (decide_eq_true (by omega)), h.at0, Option.bind_some, h.run, Option.bind_some]
theorem f17_eq {a : List Int} {n : Nat} (hck : ck a = 0) (hn : n ≤ 1000) : ∃ z, f17 2100 a n = some (z, 0) ∧ (z = true ↔ Md a n) := by
  obtain ⟨b, L, h⟩ := First.of hck
  obtain ⟨z, e, hz⟩ := f61_eq (F := 2100) h.ring h.mem h.lo n
  unfold f17
  rw [f60_eq hck h hn, Option.bind_some]
  dsimp only
  rw [if_pos (by decide), e]
  exact ⟨z, rfl, hz⟩
theorem f21_eq {a L : List Int} {b n : Nat} (hck : ck a = 0) (h : First a b L) (hn : n ≤ 1000) : (Md a n → f21 2100 a n = some (0, 0, 13)) ∧ (¬ Md a n → f21 2100 a n = some (((n % b : Nat) : Int), nt L (n % b), 0)) := by
  obtain ⟨z, e, hz⟩ := f61_eq (F := 2100) h.ring h.mem h.lo n
  have hl := h.ring.len
  have h1 := h.lo
  have hq := Nat.mod_lt n h.lo
  have hmod : Int.tmod (n : Int) (b : Int) = ((n % b : Nat) : Int) := by rw [Int.tmod_eq_emod_of_nonneg (by omega), Int.natCast_emod]
  unfold f21
  rw [f60_eq hck h hn, Option.bind_some]
  dsimp only
  rw [if_neg (by decide), e, Option.bind_some]
  constructor
  · intro hm
    rw [hz.2 hm, if_pos rfl]
  · intro hm
    have : z = false := by
      cases z with
      | false => rfl
      | true => exact absurd (hz.1 rfl) hm
    rw [this, if_neg (by decide), h.at0, Option.bind_some, req_pos (by omega), hmod, at_get (by omega), Option.bind_some, nt_get (by omega)]
/-- Gaps, Greatest and Even. -/
theorem inf_eq {a : List Int} (hck : ck a = 0) (hc : Com a) : f28 2100 a = some ([], 15) ∧ f30 2100 a = some (0, 15) ∧ f32 2100 a = some (false, 15) := by
  obtain ⟨l, e, g1, _, g4, _⟩ := gaps_one hck
  rcases g4 with ⟨rfl, rfl, _⟩ | ⟨_, q, _⟩
  · unfold f28 f30 f32
    rw [g1]
    exact ⟨rfl, rfl, rfl⟩
  · exact absurd hc q
theorem fin_eq {a : List Int} (hck : ck a = 0) (hc : ¬ Com a) : ∃ l, f28 2100 a = some (l, 0) ∧ Gaps a l ∧ l.length ≤ 900 ∧ (∀ x ∈ l, 0 ≤ x ∧ x ≤ 900) ∧ (l = [] → f30 2100 a = some (0, 12) ∧ f32 2100 a = some (true, 0)) ∧
    (∀ v, l.getLast? = some v → f30 2100 a = some (v, 0) ∧ f32 2100 a = some (decide (2 * (l.length : Int) = v + 1), 0)) := by
  obtain ⟨l, e, g1, g3, g4, g5⟩ := gaps_one hck
  rcases g4 with ⟨_, _, q⟩ | ⟨rfl, _, hG⟩
  · exact absurd q hc
  · refine ⟨l, by unfold f28; rw [g1]; rfl, hG, g3, g5, ?_, ?_⟩
    · rintro rfl
      unfold f30 f32
      rw [g1]
      exact ⟨rfl, rfl⟩
    · intro v hv
      have h0 : l.length ≠ 0 := fun h => by
        rw [List.length_eq_zero_iff.1 h] at hv
        cases hv
      obtain ⟨w, ew, hw, hw2⟩ := last_get h0 (by omega)
      have : w = v := by rw [hv] at hw2; injection hw2 with h; exact h.symm
      subst this
      have := g5 w hw
      have h0' : ¬ ((((l.length : Nat) : Int) == 0) = true) := by simpa using h0
      unfold f30 f32
      rw [g1, Option.bind_some, Option.bind_some]
      simp only [bne_self_eq_false, Bool.false_eq_true, if_false]
      rw [if_neg h0', if_neg h0', ew, Option.bind_some, Option.bind_some, w64_in (n := w + 1) (by omega), w64_in (n := 2 * _) (by omega)]
      refine ⟨rfl, ?_⟩
      congr 2
end

end Go.Gh.Pack
