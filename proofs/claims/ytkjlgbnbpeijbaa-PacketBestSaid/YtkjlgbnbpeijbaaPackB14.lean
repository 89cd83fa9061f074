/- What is needed of the plain texts. -/
import Derived.Test.YtkjlgbnbpeijbaaPack14N0
namespace Go.Gh.Pack
set_option linter.unusedVariables false
set_option linter.unusedSimpArgs false

section
theorem w64_in {n : Int} (h : -9223372036854775808 ≤ n ∧ n < 9223372036854775808) : w64 n = n := by
  unfold w64 IntKind.wrap
  simp [IntKind.bits, IntKind.signed]
  split <;> omega
theorem w64_succ {n : Nat} (h : n < 1000000000) : w64 ((n : Int) + 1) = ((n + 1 : Nat) : Int) := by rw [w64_in (by omega)]; omega
theorem at_of {α : Type} {l : List α} {i : Nat} {x : α} (h : l[i]? = some x) : at? l ((i : Nat) : Int) = some x := by
  unfold at?; simp [h]
theorem at_get {α : Type} {l : List α} {i : Nat} (h : i < l.length) : at? l ((i : Nat) : Int) = some l[i] := at_of (List.getElem?_eq_getElem h)
theorem req_pos {α : Type} {p : Prop} [Decidable p] {x : Option α} (h : p) : req p x = x := by unfold req; rw [if_pos h]
theorem take0 {α : Type} (l : List α) : List.drop 0 (List.take (0 + l.length) l) = l := by simp
theorem drop_cons {α : Type} {l : List α} {i : Nat} (h : i < l.length) : l.drop i = l[i] :: l.drop (i + 1) := List.drop_eq_getElem_cons h
theorem f67_eq {F : Nat} {x a b : Int} : f67 F x a b = some (decide (a ≤ x ∧ x ≤ b)) := by
  unfold f67
  by_cases h : a ≤ x <;> simp [h]
theorem f23_p2_eq {F : Nat} {a b : List Int} (hab : a.length = b.length) (ha : a.length ≤ 5000) : ∀ (k i : Nat), i ≤ a.length → a.length < k + i → f23_p2 F a b k i = some (if a.drop i = b.drop i then .c1 else .c0) := by
  intro k
  induction k with
  | zero => intro i _ h; omega
  | succ k ih =>
    intro i h1 h2
    unfold f23_p2
    by_cases hi : i < a.length
    · rw [if_pos (by simp; omega), at_get hi, at_get (by omega : i < b.length), Option.bind_some, Option.bind_some]
      have e : (List.drop i a = List.drop i b) = (a[i] = b[i] ∧ List.drop (i + 1) a = List.drop (i + 1) b) := by rw [drop_cons hi, drop_cons (by omega : i < b.length), List.cons.injEq]
      simp only [e]
      by_cases he : a[i] = b[i]
      · rw [if_neg (by simp [he]), w64_succ (by omega), ih (i + 1) (by omega) (by omega)]
        simp only [he, true_and]
      · rw [if_pos (by simp [he]), if_neg (fun h => he h.1)]
    · rw [if_neg (by simp; omega), List.drop_eq_nil_of_le (by omega), List.drop_eq_nil_of_le (by omega)]
      rfl
theorem f23_eq {F : Nat} {a b : List Int} (ha : a.length < F) (hF : F ≤ 5000) : f23 F a b = some (decide (a = b)) := by
  unfold f23
  by_cases hab : a.length = b.length
  · have h := f23_p2_eq (F := F) hab (by omega) F 0 (by omega) (by omega)
    rw [List.drop_zero, List.drop_zero] at h
    rw [if_neg (by simp [hab]), show f23_p2 F a b F 0 = _ from h, Option.bind_some]
    by_cases he : a = b
    · rw [if_pos he, decide_eq_true he]
    · rw [if_neg he, decide_eq_false he]
  · rw [if_pos (by simp; omega), decide_eq_false (fun h => hab (by rw [h]))]

/- Sizes. -/
def ckL : Int → List Int → Int
  | _, [] => 0
  | p, x :: r => if 1 ≤ x ∧ x ≤ 30 then (if x ≤ p then 7 else ckL x r) else 1
def ck (l : List Int) : Int := if l.length = 0 then 4 else if l.length > 5 then 3 else ckL 0 l
theorem f26_p4_eq {F : Nat} {l : List Int} (hl : l.length ≤ 5) : ∀ (k i : Nat) (p : Int), i ≤ l.length → l.length < k + i →
    ∃ z, f26_p4 F l k p i = some z ∧ (ckL p (l.drop i) ≠ 0 → z = .c0 (ckL p (l.drop i))) ∧ (ckL p (l.drop i) = 0 → z = .c1) := by
  intro k
  induction k with
  | zero => intro i p _ h; omega
  | succ k ih =>
    intro i p h1 h2
    unfold f26_p4
    by_cases hi : i < l.length
    · rw [if_pos (by simp; omega), at_get hi, drop_cons hi]
      simp only [Option.bind_some, f67_eq, decide_eq_true_eq, ckL]
      by_cases hx : 1 ≤ l[i] ∧ l[i] ≤ 30
      · rw [if_pos hx, if_pos hx]
        by_cases hp : l[i] ≤ p
        · rw [if_pos hp, if_pos hp]
          exact ⟨_, rfl, fun _ => rfl, fun h => by cases h⟩
        · rw [if_neg hp, if_neg hp, w64_succ (by omega)]
          exact ih (i + 1) l[i] (by omega) (by omega)
      · rw [if_neg hx, if_neg hx]
        exact ⟨_, rfl, fun _ => rfl, fun h => by cases h⟩
    · rw [if_neg (by simp; omega), List.drop_eq_nil_of_le (by omega)]
      exact ⟨_, rfl, fun h => absurd rfl h, fun _ => rfl⟩
theorem f26_eq {F : Nat} {l : List Int} (hF : 10 ≤ F) : f26 F l = some (ck l) := by
  unfold f26 ck
  by_cases h0 : l.length = 0
  · rw [if_pos (by simp [h0]), if_pos h0]
  · rw [if_neg (by simp; intro h; exact h0 (by simp [h])), if_neg h0]
    by_cases h5 : l.length > 5
    · rw [if_pos (by simp; omega), if_pos h5]
    · rw [if_neg (by simp; omega), if_neg h5]
      obtain ⟨z, e1, e2, e3⟩ := f26_p4_eq (F := F) (l := l) (by omega) F 0 0 (by omega) (by omega)
      rw [List.drop_zero] at e2 e3
      rw [show f26_p4 F l F 0 0 = some z from e1, Option.bind_some]
      by_cases h : ckL 0 l = 0
      · rw [e3 h, h]
      · rw [e2 h]
theorem ckL_all : ∀ (l : List Int) (p : Int), ckL p l = 0 → ∀ x ∈ l, 1 ≤ x ∧ x ≤ 30 ∧ p < x := by
  intro l
  induction l with
  | nil => intro _ _ x hx; cases hx
  | cons y r ih =>
    intro p h x hx
    simp only [ckL] at h
    split at h
    · rename_i hy
      split at h
      · cases h
      · rcases List.mem_cons.1 hx with rfl | hx
        · omega
        · have := ih _ h x hx
          omega
    · cases h
theorem ck_zero {l : List Int} (h : ck l = 0) : 0 < l.length ∧ l.length ≤ 5 ∧ ckL 0 l = 0 := by
  unfold ck at h
  split at h
  · cases h
  · split at h
    · cases h
    · exact ⟨by omega, by omega, h⟩
theorem ck_all {l : List Int} (h : ck l = 0) : ∀ x ∈ l, 1 ≤ x ∧ x ≤ 30 := fun x hx => by
  have := ckL_all _ _ (ck_zero h).2.2 x hx
  omega

/- Stocks. -/
def stOk (l : List Int) : Bool := l.all fun x => decide (0 ≤ x ∧ x ≤ 40)
theorem stOk_iff {l : List Int} : stOk l = true ↔ ∀ x ∈ l, 0 ≤ x ∧ x ≤ 40 := by simp [stOk]
def stk (a b : List Int) : Int := if ck a = 0 then (if b.length = a.length then (if stOk b = true then 0 else 1) else 5) else ck a
theorem f92_p2_eq {F : Nat} {l : List Int} (hl : l.length ≤ 40) : ∀ (k i : Nat) (m : Int), i ≤ l.length → l.length < k + i → ∃ v, f92_p2 F l k m i = some v ∧ (v < 0 ↔ m < 0 ∨ ∃ x ∈ l.drop i, x < 0) := by
  intro k
  induction k with
  | zero => intro i m _ h; omega
  | succ k ih =>
    intro i m h1 h2
    unfold f92_p2
    by_cases hi : i < l.length
    · rw [if_pos (by simp; omega), at_get hi, Option.bind_some, w64_succ (by omega)]
      obtain ⟨v, e1, e2⟩ := ih (i + 1) (if l[i] < m then l[i] else m) (by omega) (by omega)
      refine ⟨v, e1, e2.trans ?_⟩
      rw [drop_cons hi]
      simp only [List.mem_cons, exists_eq_or_imp]
      have : (if l[i] < m then l[i] else m) < 0 ↔ m < 0 ∨ l[i] < 0 := by split <;> omega
      rw [this, or_assoc]
    · rw [if_neg (by simp; omega), List.drop_eq_nil_of_le (by omega)]
      exact ⟨m, rfl, by simp⟩
theorem f92_eq {F : Nat} {l : List Int} (hF : 100 ≤ F) (h0 : 0 < l.length) (hl : l.length ≤ 40) : ∃ v, f92 F l = some v ∧ (v < 0 ↔ ∃ x ∈ l, x < 0) := by
  unfold f92 f92_p0
  rw [if_neg (by simp; omega), Option.bind_some, show at? l 0 = some l[0] from at_get h0, Option.bind_some]
  obtain ⟨v, e1, e2⟩ := f92_p2_eq (F := F) hl F 1 l[0] (by omega) (by omega)
  rw [show f92_p2 F l F l[0] 1 = some v from e1, Option.bind_some]
  refine ⟨v, rfl, e2.trans ?_⟩
  have e : l = l[0] :: l.drop 1 := by have := drop_cons h0; rwa [List.drop_zero] at this
  constructor
  · rintro (h | ⟨x, hx, h⟩)
    · exact ⟨l[0], List.getElem_mem h0, h⟩
    · exact ⟨x, List.mem_of_mem_drop hx, h⟩
  · rintro ⟨x, hx, h⟩
    rw [e] at hx
    rcases List.mem_cons.1 hx with rfl | hx
    · exact .inl h
    · exact .inr ⟨x, hx, h⟩
theorem f85_p2_eq {F : Nat} {l : List Int} (hl : l.length ≤ 40) : ∀ (k i : Nat) (m : Int), i ≤ l.length → l.length < k + i → ∃ v, f85_p2 F l k m i = some v ∧ (v > 40 ↔ m > 40 ∨ ∃ x ∈ l.drop i, x > 40) := by
  intro k
  induction k with
  | zero => intro i m _ h; omega
  | succ k ih =>
    intro i m h1 h2
    unfold f85_p2
    by_cases hi : i < l.length
    · rw [if_pos (by simp; omega), at_get hi, Option.bind_some, w64_succ (by omega)]
      obtain ⟨v, e1, e2⟩ := ih (i + 1) (if l[i] > m then l[i] else m) (by omega) (by omega)
      refine ⟨v, e1, e2.trans ?_⟩
      rw [drop_cons hi]
      simp only [List.mem_cons, exists_eq_or_imp]
      have : (if l[i] > m then l[i] else m) > 40 ↔ m > 40 ∨ l[i] > 40 := by split <;> omega
      rw [this, or_assoc]
    · rw [if_neg (by simp; omega), List.drop_eq_nil_of_le (by omega)]
      exact ⟨m, rfl, by simp⟩
theorem f85_eq {F : Nat} {l : List Int} (hF : 100 ≤ F) (h0 : 0 < l.length) (hl : l.length ≤ 40) : ∃ v, f85 F l = some v ∧ (v > 40 ↔ ∃ x ∈ l, x > 40) := by
  unfold f85 f85_p0
  rw [if_neg (by simp; omega), Option.bind_some, show at? l 0 = some l[0] from at_get h0, Option.bind_some]
  obtain ⟨v, e1, e2⟩ := f85_p2_eq (F := F) hl F 1 l[0] (by omega) (by omega)
  rw [show f85_p2 F l F l[0] 1 = some v from e1, Option.bind_some]
  refine ⟨v, rfl, e2.trans ?_⟩
  have e : l = l[0] :: l.drop 1 := by have := drop_cons h0; rwa [List.drop_zero] at this
  constructor
  · rintro (h | ⟨x, hx, h⟩)
    · exact ⟨l[0], List.getElem_mem h0, h⟩
    · exact ⟨x, List.mem_of_mem_drop hx, h⟩
  · rintro ⟨x, hx, h⟩
    rw [e] at hx
    rcases List.mem_cons.1 hx with rfl | hx
    · exact .inl h
    · exact .inr ⟨x, hx, h⟩
theorem f77_eq {F : Nat} {a b : List Int} (hF : 100 ≤ F) (hb : b.length ≤ 40) : f77 F a b = some (if stk a b = 0 then (a, b, 0) else ([], [], stk a b)) := by
  unfold f77 stk
  rw [f26_eq (by omega), Option.bind_some]
  by_cases h1 : ck a = 0
  · obtain ⟨h0, h5, _⟩ := ck_zero h1
    rw [if_neg (by simp [h1]), if_pos h1]
    by_cases h2 : b.length = a.length
    · rw [if_neg (by simp [h2]), if_pos h2]
      obtain ⟨v, e1, e2⟩ := f92_eq hF (l := b) (by omega) hb
      obtain ⟨u, e3, e4⟩ := f85_eq hF (l := b) (by omega) hb
      rw [e1, Option.bind_some]
      by_cases h3 : v < 0
      · have hs : ¬ stOk b = true := fun h => by
          obtain ⟨x, hx, hx0⟩ := e2.1 h3
          have := stOk_iff.1 h x hx
          omega
        rw [if_pos (by simpa using h3), if_neg hs, if_neg (by decide)]
      · rw [if_neg (by simpa using h3), e3, Option.bind_some]
        by_cases h4 : u > 40
        · have hs : ¬ stOk b = true := fun h => by
            obtain ⟨x, hx, hx0⟩ := e4.1 h4
            have := stOk_iff.1 h x hx
            omega
          rw [if_pos (by simpa using h4), if_neg hs, if_neg (by decide)]
        · have hs : stOk b = true := stOk_iff.2 fun x hx => by
            have g1 : ¬ x < 0 := fun h => h3 (e2.2 ⟨x, hx, h⟩)
            have g2 : ¬ x > 40 := fun h => h4 (e4.2 ⟨x, hx, h⟩)
            omega
          rw [if_neg (by simpa using h4), if_pos hs, if_pos rfl]
    · rw [if_pos (by simp; omega), if_neg h2, if_neg (by decide)]
  · rw [if_pos (by simpa using h1), if_neg h1, if_neg h1]
/-- The error of a store and of a number. -/
def od (a b : List Int) (n : Int) : Int := if stk a b = 0 then (if 0 ≤ n ∧ n ≤ 1000 then 0 else 1) else stk a b
theorem od_zero {a b : List Int} {n : Int} (h : od a b n = 0) : stk a b = 0 ∧ 0 ≤ n ∧ n ≤ 1000 := by
  unfold od at h
  split at h
  · rename_i h1
    split at h
    · rename_i h2; exact ⟨h1, h2⟩
    · cases h
  · rename_i h1; exact absurd h h1
theorem f73_eq {F : Nat} {a b : List Int} {n : Int} (hF : 100 ≤ F) (hb : b.length ≤ 40) : f73 F a b n = some (if stk a b = 0 then (a, b, od a b n) else ([], [], od a b n)) := by
  unfold f73 f73_p0 od
  rw [f77_eq hF hb, Option.bind_some]
  by_cases h : stk a b = 0
  · simp only [if_pos h, beq_self_eq_true, if_true, f67_eq, Option.bind_some, decide_eq_true_eq]
    by_cases hn : 0 ≤ n ∧ n ≤ 1000
    · rw [if_pos hn, if_pos hn, Option.bind_some]
    · rw [if_neg hn, if_neg hn, Option.bind_some]
  · simp only [if_neg h, beq_iff_eq, if_false]
theorem stk_zero {a b : List Int} (h : stk a b = 0) : ck a = 0 ∧ b.length = a.length ∧ ∀ x ∈ b, 0 ≤ x ∧ x ≤ 40 := by
  unfold stk at h
  split at h
  · rename_i h1
    split at h
    · rename_i h2
      split at h
      · rename_i h3; exact ⟨h1, h2, stOk_iff.1 h3⟩
      · cases h
    · cases h
  · rename_i h1; exact absurd h h1
end
section
/-- At most c - 1 packets of s, and what g tells of the rest. -/
def ws (s : Nat) (g : Nat → Int) : Nat → Nat → Int
  | 0, _ => 0
  | c + 1, x => g x + (if s ≤ x then ws s g c (x - s) else 0)
theorem ws_last {s : Nat} {g : Nat → Int} : ∀ c x : Nat, ws s g (c + 1) x = ws s g c x + (if c * s ≤ x then g (x - c * s) else 0)
  | 0, x => by simp [ws]
  | c + 1, x => by
    have e : (c + 1) * s = c * s + s := by rw [Nat.add_mul, Nat.one_mul]
    have d1 : ws s g (c + 1 + 1) x = g x + (if s ≤ x then ws s g (c + 1) (x - s) else 0) := rfl
    have d2 : ws s g (c + 1) x = g x + (if s ≤ x then ws s g c (x - s) else 0) := rfl
    rw [d1, d2, e]
    by_cases h : s ≤ x
    · rw [if_pos h, if_pos h, ws_last c (x - s)]
      by_cases h2 : c * s ≤ x - s
      · rw [if_pos h2, if_pos (by omega), show x - s - c * s = x - (c * s + s) by omega]; omega
      · rw [if_neg h2, if_neg (by omega)]; omega
    · rw [if_neg h, if_neg h, if_neg (by omega)]; omega
theorem ws_step {s : Nat} {g : Nat → Int} {c x : Nat} (h : s ≤ x) : ws s g (c + 1) x = g x + ws s g (c + 1) (x - s) - (if (c + 1) * s ≤ x then g (x - (c + 1) * s) else 0) := by
  have e : (c + 1) * s = c * s + s := by rw [Nat.add_mul, Nat.one_mul]
  rw [ws_last c (x - s), ws, if_pos h, e]
  by_cases h2 : c * s ≤ x - s
  · rw [if_pos h2, if_pos (by omega), show x - s - c * s = x - (c * s + s) by omega]; omega
  · rw [if_neg h2, if_neg (by omega)]; omega
theorem ws_small {s : Nat} {g : Nat → Int} {c x : Nat} (h : x < s) : ws s g (c + 1) x = g x := by rw [ws, if_neg (by omega)]; omega
theorem ws_bd {s : Nat} {g : Nat → Int} {B : Int} (hg : ∀ y, 0 ≤ g y ∧ g y ≤ B) : ∀ c x : Nat, 0 ≤ ws s g c x ∧ ws s g c x ≤ c * B
  | 0, x => by simp [ws]
  | c + 1, x => by
    have h1 := hg x
    have h2 := ws_bd (s := s) hg c (x - s)
    have h3 := hg 0
    have e : ((c + 1 : Nat) : Int) * B = c * B + B := by rw [Int.natCast_add, Int.add_mul]; simp
    have h4 : 0 ≤ (c : Int) * B := Int.mul_nonneg (by omega) (by omega)
    rw [ws, e]
    split <;> omega
def tab (N : Nat) (g : Nat → Int) : List Int := (List.range N).map g
theorem tab_len (N : Nat) (g : Nat → Int) : (tab N g).length = N := by simp [tab]
theorem tab_get {N i : Nat} (g : Nat → Int) (h : i < N) : (tab N g)[i]? = some (g i) := by
  unfold tab
  rw [List.getElem?_map, List.getElem?_range h]; rfl
theorem tab_at {N i : Nat} (g : Nat → Int) (h : i < N) : at? (tab N g) (i : Int) = some (g i) := at_of (tab_get g h)
theorem tab_congr {N : Nat} {g h : Nat → Int} (e : ∀ y, y < N → g y = h y) : tab N g = tab N h :=
  List.map_congr_left fun y hy => e y (List.mem_range.1 hy)
theorem tab_set {N i : Nat} (g : Nat → Int) (v : Int) : (tab N g).set i v = tab N (fun y => if y = i then v else g y) := by
  apply List.ext_getElem?
  intro k
  by_cases hk : k < N
  · rw [tab_get _ hk, List.getElem?_set, tab_len]
    by_cases h : i = k
    · subst h; simp [hk]
    · rw [if_neg h, tab_get _ hk, if_neg (fun e => h e.symm)]
  · rw [List.getElem?_eq_none (by simp [tab_len]; omega), List.getElem?_eq_none (by simp [tab_len]; omega)]
theorem tab_zero (N : Nat) : List.replicate N (0 : Int) = tab N (fun _ => 0) := by
  apply List.ext_getElem?
  intro k
  by_cases hk : k < N
  · rw [tab_get _ hk, List.getElem?_replicate, if_pos hk]
  · rw [List.getElem?_eq_none (by simp; omega), List.getElem?_eq_none (by simp [tab_len]; omega)]
theorem take_tab (N : Nat) (g : Nat → Int) : List.drop 0 (List.take (0 + N) (tab N g)) = tab N g := by
  rw [List.drop_zero, Nat.zero_add, List.take_of_length_le (by rw [tab_len]; exact Nat.le_refl _)]
def wf : (Nat → Int) → List Int → List Int → Nat → Int
  | g, s :: a, c :: b => wf (ws s.toNat g (c.toNat + 1)) a b
  | g, [], _ => g
  | g, _, [] => g
def g0 : Nat → Int := fun y => if y = 0 then 1 else 0
def W (a b : List Int) : Nat → Int := wf g0 a b
theorem f47m_eq {F : Nat} {l : List Int} (hl : l.length ≤ 5000) : f47m F l = some l := by
  unfold f47m
  cases l with
  | nil => rfl
  | cons x r =>
    simp only [nilm, f47, Option.isNone_some, Option.getD_some]
    rw [if_neg (by decide), req_pos (by simp at hl ⊢; omega)]
    simp
theorem f47_1m_eq {F : Nat} {l : List Int} (hl : l.length ≤ 5000) : f47_1m F l = some l := by
  unfold f47_1m
  cases l with
  | nil => rfl
  | cons x r =>
    simp only [nilm, f47_1, Option.isNone_some, Option.getD_some]
    rw [if_neg (by decide), req_pos (by simp at hl ⊢; omega)]
    simp
theorem cs_cast {c s : Nat} (hs : 1 ≤ s ∧ s ≤ 30) (hc : c ≤ 41) : w64 ((c : Int) * s) = ((c * s : Nat) : Int) ∧ c * s ≤ 1230 := by
  have h : c * s ≤ 41 * 30 := Nat.mul_le_mul hc hs.2
  have e : (c : Int) * s = ((c * s : Nat) : Int) := by rw [Int.natCast_mul]
  refine ⟨?_, by omega⟩
  rw [e, w64_in (by omega)]
theorem f74_p5_eq {F : Nat} {a b x36 : List Int} {g : Nat → Int} {s c i : Nat} (hs : 1 ≤ s ∧ s ≤ 30) (hc : c ≤ 40) (hb : b[i]? = some (c : Int)) (hx : x36.length = 1001) (hg : ∀ y, 0 ≤ g y ∧ g y ≤ 115856201) :
    ∀ (k x : Nat) (h : Nat → Int), s ≤ x → x ≤ 1001 → 1001 < k + x → (∀ y, h y = if y < x then ws s g (c + 1) y else g y) →
    f74_p5_1 F (tab 1001 g) i s x36 a b k x (tab 1001 h) = some (tab 1001 (ws s g (c + 1))) := by
  intro k
  induction k with
  | zero => intro x h _ h1 h2; omega
  | succ k ih =>
    intro x h h0 h1 h2 hh
    unfold f74_p5_1
    by_cases hx1 : x ≤ 1000
    · have hgx := hg x
      have hw := ws_bd (s := s) hg (c + 1) (x - s)
      have hw' : ws s g (c + 1) (x - s) ≤ 41 * 115856201 := by
        have : ((c + 1 : Nat) : Int) * 115856201 ≤ 41 * 115856201 := Int.mul_le_mul_of_nonneg_right (by omega) (by decide)
        omega
      have e1 : h x = g x := by rw [hh, if_neg (by omega)]
      have e2 : h (x - s) = ws s g (c + 1) (x - s) := by rw [hh, if_pos (by omega)]
      have ex : w64 ((x : Int) - s) = ((x - s : Nat) : Int) := by rw [w64_in (by omega)]; omega
      have hcs := cs_cast (c := c + 1) hs (by omega)
      rw [if_pos (by simp; omega), req_pos (by rw [hx]; omega), Int.toNat_natCast, Nat.zero_add, tab_get _ (by omega), Option.bind_some, ex, req_pos (by rw [hx]; omega), Int.toNat_natCast, Nat.zero_add, tab_get _ (by omega), Option.bind_some, req_pos (by rw [tab_len]; omega), at_of hb, Option.bind_some, e1, e2]
      have hstep := ws_step (g := g) (c := c) h0
      have fin : f74_p8_5 F (tab 1001 g) i s x36 x c a (tab 1001 h) (g x) (ws s g (c + 1) (x - s)) b = some (tab 1001 (fun y => if y = x then ws s g (c + 1) x else h y)) := by
        unfold f74_p8_5
        have e3 : w64 ((x : Int) - w64 (w64 ((c : Int) + 1) * s)) = (x : Int) - (((c + 1) * s : Nat) : Int) := by
          rw [w64_succ (by omega), hcs.1, w64_in (by omega)]
        rw [e3, Int.toNat_natCast, Nat.zero_add, w64_in (n := g x + ws s g (c + 1) (x - s)) (by omega), tab_set]
        clear e3 hcs
        generalize (c + 1) * s = q at *
        by_cases hf : q ≤ x
        · have hgf := hg (x - q)
          rw [if_pos hf] at hstep
          rw [if_pos (by simp; omega), req_pos (by rw [hx]; omega), tab_get _ (by omega), Option.bind_some, show (x : Int) - ((q : Nat) : Int) = ((x - q : Nat) : Int) by omega, tab_at _ (by omega), Option.bind_some, req_pos (by rw [tab_len]; omega), tab_set, if_pos rfl]
          refine congrArg some (tab_congr fun y _ => ?_)
          by_cases hy : y = x
          · rw [if_pos hy, if_pos hy, w64_in (by omega)]; omega
          · rw [if_neg hy, if_neg hy, if_neg hy]
        · rw [if_neg hf] at hstep
          rw [if_neg (by simp; omega)]
          refine congrArg some (tab_congr fun y _ => ?_)
          by_cases hy : y = x
          · rw [if_pos hy, if_pos hy]; omega
          · rw [if_neg hy, if_neg hy]
      rw [fin, Option.bind_some, w64_succ (by omega)]
      refine ih (x + 1) _ (by omega) (by omega) (by omega) fun y => ?_
      by_cases hy : y = x
      · subst hy; rw [if_pos rfl, if_pos (by omega)]
      · rw [if_neg hy, hh]
        by_cases hyx : y < x
        · rw [if_pos hyx, if_pos (by omega)]
        · rw [if_neg hyx, if_neg (by omega)]
    · rw [if_neg (by simp; omega)]
      refine congrArg some (tab_congr fun y hy => ?_)
      rw [hh, if_pos (by omega)]
theorem pow41 {i : Nat} (h : i ≤ 5) : (0 : Int) ≤ 41 ^ i ∧ (41 : Int) ^ i ≤ 115856201 := by
  match i, h with
  | 0, _ => decide
  | 1, _ => decide
  | 2, _ => decide
  | 3, _ => decide
  | 4, _ => decide
  | 5, _ => decide
theorem ws_pow {s c i : Nat} {g : Nat → Int} (hc : c ≤ 40) (hg : ∀ y, 0 ≤ g y ∧ g y ≤ 41 ^ i) (y : Nat) : 0 ≤ ws s g (c + 1) y ∧ ws s g (c + 1) y ≤ 41 ^ (i + 1) := by
  have h := ws_bd (s := s) hg (c + 1) y
  have h0 := hg 0
  have h1 : ((c + 1 : Nat) : Int) * 41 ^ i ≤ 41 * 41 ^ i := Int.mul_le_mul_of_nonneg_right (by omega) (by omega)
  rw [Int.pow_succ, Int.mul_comm]
  omega
structure Good (a b : List Int) : Prop where
  len : b.length = a.length
  five : a.length ≤ 5
  sz : ∀ x ∈ a, 1 ≤ x ∧ x ≤ 30
  st : ∀ x ∈ b, 0 ≤ x ∧ x ≤ 40
theorem f74_p1_eq {F : Nat} (hF : 1100 ≤ F) {a b : List Int} (hab : Good a b) : ∀ (k i : Nat) (g : Nat → Int), i ≤ a.length → a.length < k + i → (∀ y, 0 ≤ g y ∧ g y ≤ 41 ^ i) →
    f74_p1 F a b k (tab 1001 g) i = some (tab 1001 (wf g (a.drop i) (b.drop i))) := by
  have h5 := hab.five
  have hl := hab.len
  intro k
  induction k with
  | zero => intro i g _ h; omega
  | succ k ih =>
    intro i g h1 h2 hg
    unfold f74_p1
    by_cases hi : i < a.length
    · have ha := hab.sz _ (List.getElem_mem hi)
      have hbi : i < b.length := by omega
      have hb := hab.st _ (List.getElem_mem hbi)
      obtain ⟨s, es⟩ : ∃ s : Nat, a[i] = s := ⟨a[i].toNat, by omega⟩
      obtain ⟨c, ec⟩ : ∃ c : Nat, b[i] = c := ⟨b[i].toNat, by omega⟩
      have hp := pow41 (i := i) (by omega)
      have hg' : ∀ y, 0 ≤ g y ∧ g y ≤ 115856201 := fun y => by have := hg y; omega
      rw [if_pos (by simp; omega), at_get hi, Option.bind_some, f47m_eq (by rw [tab_len]; omega), Option.bind_some, es]
      rw [f74_p5_eq (s := s) (c := c) (by omega) (by omega) (by rw [List.getElem?_eq_getElem hbi, ec]) (tab_len ..) hg' F s g (by omega) (by omega) (by omega) (fun y => by
        by_cases h : y < s
        · rw [if_pos h, ws_small h]
        · rw [if_neg h]), Option.bind_some, req_pos (by rw [tab_len, tab_len]; omega), tab_len, take_tab, w64_succ (by omega)]
      rw [ih (i + 1) _ (by omega) (by omega) (ws_pow (by omega) hg), drop_cons hi, drop_cons hbi, es, ec]
      rfl
    · rw [if_neg (by simp; omega), List.drop_eq_nil_of_le (by omega)]
      rfl
theorem f74_eq {F : Nat} (hF : 1100 ≤ F) {a b : List Int} (hab : Good a b) : f74 F a b = some (tab 1001 (W a b)) := by
  have e := f74_p1_eq hF hab F 0 g0 (by omega) (by have := hab.five; omega) (fun y => by unfold g0; split <;> decide)
  rw [List.drop_zero, List.drop_zero] at e
  unfold f74
  have e2 : (List.replicate 1001 (0 : Int)).set 0 1 = tab 1001 g0 := by
    rw [tab_zero, tab_set]; rfl
  rw [req_pos (by decide), req_pos (by rw [List.length_replicate]; decide), e2, req_pos (by rw [tab_len]; decide), show List.drop 0 (List.take 1001 (tab 1001 g0)) = tab 1001 g0 from take_tab 1001 g0, show f74_p1 F a b F (tab 1001 g0) 0 = _ from e, Option.bind_some]
  rfl

/- The reference. -/
end
section
theorem Good.of {a b : List Int} (h : stk a b = 0) : Good a b := by
  obtain ⟨h1, h2, h3⟩ := stk_zero h
  exact ⟨h2, (ck_zero h1).2.1, ck_all h1, h3⟩
theorem f36_eq {F : Nat} (hF : 1100 ≤ F) {a b : List Int} {n : Int} (hb : b.length ≤ 40) : f36 F a b n = some (if od a b n = 0 then (W a b n.toNat, 0) else (0, od a b n)) := by
  unfold f36
  rw [f73_eq (by omega) hb, Option.bind_some]
  by_cases h : od a b n = 0
  · obtain ⟨h1, h2, h3⟩ := od_zero h
    have hab := Good.of h1
    obtain ⟨m, rfl⟩ : ∃ m : Nat, n = m := ⟨n.toNat, by omega⟩
    rw [if_pos h]
    simp only [if_pos h1, h, bne_self_eq_false, Bool.false_eq_true, if_false]
    rw [f74_eq hF hab, Option.bind_some, tab_at _ (by omega), Option.bind_some, Int.toNat_natCast]
  · rw [if_neg h]
    by_cases hs : stk a b = 0 <;> simp [hs, h]
/-- The numbers of which g tells more than nothing. -/
def pos (g : Nat → Int) : Nat → Nat → List Int
  | _, 0 => []
  | i, m + 1 => if g i > 0 then (i : Int) :: pos g (i + 1) m else pos g (i + 1) m
theorem f78_1_p1_eq {F : Nat} {g : Nat → Int} : ∀ (k i : Nat) (acc : List Int), i ≤ 1001 → 1001 < k + i → acc.length ≤ i → f78_1_p1 F (tab 1001 g) k i acc = some (.c1 (acc ++ pos g i (1001 - i))) := by
  intro k
  induction k with
  | zero => intro i acc _ h; omega
  | succ k ih =>
    intro i acc h1 h2 h3
    unfold f78_1_p1
    rw [tab_len]
    by_cases hi : i < 1001
    · rw [if_pos (by simp; omega), tab_at _ hi, Option.bind_some, w64_succ (by omega), show 1001 - i = (1001 - (i + 1)) + 1 by omega, pos]
      by_cases h : g i > 0
      · rw [if_pos (by simpa using h), f79, req_pos (by simp; omega), Option.bind_some, if_pos h]
        show f78_1_p1 F (tab 1001 g) k ((i + 1 : Nat) : Int) _ = _
        rw [ih (i + 1) _ (by omega) (by omega) (by simp; omega)]
        simp
      · rw [if_neg (by simpa using h), if_neg h, ih (i + 1) _ (by omega) (by omega) (by omega)]
    · rw [if_neg (by simp; omega), show 1001 - i = 0 by omega]
      simp [pos]
def tots (a b : List Int) : List Int := if stk a b = 0 then pos (W a b) 0 1001 else []
theorem f38_eq {F : Nat} (hF : 1100 ≤ F) {a b : List Int} (hb : b.length ≤ 40) : f38 F a b = some (tots a b, stk a b) := by
  unfold f38 tots
  rw [f77_eq (by omega) hb, Option.bind_some]
  by_cases h : stk a b = 0
  · simp only [if_pos h, bne_self_eq_false, Bool.false_eq_true, if_false]
    have e := f78_1_p1_eq (F := F) (g := W a b) F 0 [] (by omega) (by omega) (by simp)
    unfold f78_1
    rw [f74_eq hF (Good.of h), Option.bind_some, show f78_1_p1 F (tab 1001 (W a b)) F 0 [] = _ from e, Option.bind_some, Option.bind_some, List.nil_append, take0, h]
  · simp only [if_neg h, bne_iff_ne, ne_eq, not_false_eq_true, if_true]
    rw [if_pos h]
def nxt (g : Nat → Int) (n : Int) : Nat → Nat → Option Int
  | _, 0 => none
  | i, m + 1 => if g i > 0 ∧ n ≤ i then some i else nxt g n (i + 1) m
theorem f78_p1_eq {F : Nat} {g : Nat → Int} {n : Int} : ∀ (k i : Nat), i ≤ 1001 → 1001 < k + i → f78_p1 F (tab 1001 g) n k i 12 0 = some (match nxt g n i (1001 - i) with | some v => .c0 0 v | none => .c1 12 0) := by
  intro k
  induction k with
  | zero => intro i _ h; omega
  | succ k ih =>
    intro i h1 h2
    unfold f78_p1
    rw [tab_len]
    by_cases hi : i < 1001
    · rw [if_pos (by simp; omega), tab_at _ hi, Option.bind_some, w64_succ (by omega), show 1001 - i = (1001 - (i + 1)) + 1 by omega, nxt]
      by_cases h : g i > 0
      · rw [if_pos (by simpa using h), f80, f80_p0]
        by_cases h3 : (i : Int) ≥ n
        · rw [if_pos (by simpa using h3), if_pos ⟨h, h3⟩]
          rfl
        · rw [if_neg (by simpa using h3), if_neg (fun e => h3 e.2)]
          exact ih (i + 1) (by omega) (by omega)
      · rw [if_neg (by simpa using h), if_neg (fun e => h e.1), ih (i + 1) (by omega) (by omega)]
    · rw [if_neg (by simp; omega), show 1001 - i = 0 by omega]
      rfl
/-- What Least answers. -/
def lea (a b : List Int) (n : Int) : Int × Int := if od a b n = 0 then (match nxt (W a b) n 0 1001 with | some v => (v, 0) | none => (0, 12)) else (0, od a b n)
theorem f40_eq {F : Nat} (hF : 1100 ≤ F) {a b : List Int} {n : Int} (hb : b.length ≤ 40) : f40 F a b n = some (lea a b n) := by
  unfold f40 lea
  rw [f73_eq (by omega) hb, Option.bind_some]
  by_cases h : od a b n = 0
  · have h1 := (od_zero h).1
    simp only [if_pos h1, h, bne_self_eq_false, Bool.false_eq_true, if_false, if_true]
    have e := f78_p1_eq (F := F) (g := W a b) (n := n) F 0 (by omega) (by omega)
    unfold f78
    rw [f74_eq hF (Good.of h1), Option.bind_some, show f78_p1 F (tab 1001 (W a b)) n F 0 12 0 = _ from e, Option.bind_some]
    cases nxt (W a b) n 0 (1001 - 0) <;> rfl
  · rw [if_neg h]
    by_cases hs : stk a b = 0 <;> simp [hs, h]
theorem Good.setZero {a b : List Int} (h : Good a b) (i : Nat) : Good a (b.set i 0) := ⟨by simpa using h.len, h.five, h.sz, fun x hx => by
  rcases List.mem_or_eq_of_mem_set hx with hx | rfl
  · exact h.st x hx
  · decide⟩
/-- What Span goes through. -/
def spl (g : Nat → Int) (s n : Nat) : Nat → Nat → Int → Int → Int → Int × Int × Int
  | 0, _, p, q, e => (p, q, e)
  | m + 1, j, p, q, e => if j * s ≤ n then (if g (n - j * s) = 0 then spl g s n m (j + 1) p q e else if e = 0 then spl g s n m (j + 1) p j 0 else spl g s n m (j + 1) j j 0) else (p, q, e)
theorem f42_p4_eq {F n : Nat} (hn : n ≤ 1000) {a b : List Int} {g : Nat → Int} {i s c : Nat} (hs : 1 ≤ s ∧ s ≤ 30) (hc : c ≤ 40) (ha : a[i]? = some (s : Int)) :
    ∀ (k j : Nat) (p q e : Int), j ≤ c + 1 → c + 1 < k + j → f42_p4 F n i (tab 1001 g) c a b k p q e j = some (spl g s n (c + 1 - j) j p q e) := by
  intro k
  induction k with
  | zero => intro j p q e _ h; omega
  | succ k ih =>
    intro j p q e h1 h2
    unfold f42_p4
    rw [w64_succ (by omega)]
    by_cases hj : j ≤ c
    · have hcs := cs_cast (c := j) hs (by omega)
      rw [if_pos (by simp; omega), at_of ha, Option.bind_some, hcs.1, show c + 1 - j = (c + 1 - (j + 1)) + 1 by omega, spl]
      by_cases hx : j * s ≤ n
      · rw [show w64 ((n : Int) - ((j * s : Nat) : Int)) = ((n - j * s : Nat) : Int) by rw [w64_in (by omega)]; omega]
        rw [if_neg (by simp only [decide_eq_true_eq]; omega), if_pos hx, tab_at _ (by omega), Option.bind_some, w64_succ (by omega)]
        unfold f42_p10
        generalize g (n - j * s) = z at *
        by_cases h0 : z = 0
        · subst h0
          simp only [beq_self_eq_true, if_true]
          exact ih (j + 1) _ _ _ (by omega) (by omega)
        · have d1 : (z == 0) = false := by simpa using h0
          simp only [d1, if_neg h0, Bool.false_eq_true, if_false]
          by_cases he : e = 0
          · subst he
            simp only [bne_self_eq_false, Bool.false_eq_true, if_false, if_true, Option.bind_some]
            exact ih (j + 1) _ _ _ (by omega) (by omega)
          · have d2 : (e != 0) = true := by simpa using he
            simp only [d2, if_neg he, if_true, Option.bind_some]
            exact ih (j + 1) _ _ _ (by omega) (by omega)
      · rw [show w64 ((n : Int) - ((j * s : Nat) : Int)) = (n : Int) - ((j * s : Nat) : Int) by rw [w64_in (by omega)]]
        rw [if_pos (by simp only [decide_eq_true_eq]; omega), if_neg hx]
    · rw [if_neg (by simp; omega), show c + 1 - j = 0 by omega]
      rfl
/-- What Span answers. -/
def spn (a b : List Int) (n i : Int) : Int × Int × Int :=
  if od a b n = 0 then (if 0 ≤ i ∧ i ≤ (a.length : Int) - 1 then spl (W a (b.set i.toNat 0)) ((a[i.toNat]?.getD 0).toNat) n.toNat ((b[i.toNat]?.getD 0).toNat + 1) 0 0 0 12 else (0, 0, 2)) else (0, 0, od a b n)
theorem f42_eq {F : Nat} (hF : 1100 ≤ F) {a b : List Int} {n i : Int} (hb : b.length ≤ 40) (ha : a.length ≤ 40) : f42 F a b n i = some (spn a b n i) := by
  unfold f42 spn
  rw [f73_eq (by omega) hb, Option.bind_some]
  by_cases h : od a b n = 0
  · obtain ⟨h1, h2, h3⟩ := od_zero h
    have hab := Good.of h1
    obtain ⟨m, rfl⟩ : ∃ m : Nat, n = m := ⟨n.toNat, by omega⟩
    rw [if_pos h]
    simp only [if_pos h1, h, bne_self_eq_false, Bool.false_eq_true, if_false, f67_eq, Option.bind_some, decide_eq_true_eq]
    have ew : w64 ((a.length : Int) - 1) = (a.length : Int) - 1 := w64_in (by omega)
    rw [ew]
    by_cases hi : 0 ≤ i ∧ i ≤ (a.length : Int) - 1
    · obtain ⟨j, rfl⟩ : ∃ j : Nat, i = j := ⟨i.toNat, by omega⟩
      have hl := hab.len
      have hja : j < a.length := by omega
      have hjb : j < b.length := by omega
      rw [if_pos hi, if_pos hi, f47_1m_eq (by omega), Option.bind_some]
      simp only [Int.toNat_natCast, Nat.zero_add, List.drop_zero]
      rw [req_pos (by omega), req_pos hjb, req_pos (by simp)]
      have et : List.take b.length (b.set j 0) = b.set j 0 := List.take_of_length_le (by simp)
      have hg2 := hab.setZero j
      have hsa := hab.sz _ (List.getElem_mem hja)
      have hsb := hab.st _ (List.getElem_mem hjb)
      obtain ⟨s, es⟩ : ∃ s : Nat, a[j] = s := ⟨a[j].toNat, by omega⟩
      obtain ⟨c, ec⟩ : ∃ c : Nat, b[j] = c := ⟨b[j].toNat, by omega⟩
      rw [et, f74_eq hF hg2, Option.bind_some, at_get hjb, Option.bind_some, List.getElem?_eq_getElem hja, List.getElem?_eq_getElem hjb, Option.getD_some, Option.getD_some, es, ec]
      have e := f42_p4_eq (F := F) (n := m) (by omega) (a := a) (b := b) (g := W a (b.set j 0)) (i := j) (s := s) (c := c) (by omega) (by omega) (by rw [List.getElem?_eq_getElem hja, es]) F 0 0 0 12 (by omega) (by omega)
      rw [show f42_p4 F m j (tab 1001 (W a (b.set j 0))) c a b F 0 0 12 0 = _ from e, Option.bind_some]
      rfl
    · rw [if_neg hi, if_neg hi]
  · rw [if_neg h]
    by_cases hs : stk a b = 0 <;> simp [hs, h]
end
section
set_option maxRecDepth 100000
theorem k1 : f28 1100 [3, 5] = some ([1, 2, 4, 7], 0) := by decide +kernel
theorem k2 : f30 1100 [6, 10, 15] = some (29, 0) := by decide +kernel
theorem k3 : f24 1100 [6, 10, 15] 0 = some ([0, 25, 20, 15, 10, 35], 0) := by decide +kernel
theorem k4 : f17 1100 [6, 10, 15] 31 = some (true, 0) := by decide +kernel
theorem k5 : f21 1100 [6, 10, 15] 29 = some (5, 35, 0) := by decide +kernel
theorem k6 : f19 1100 [1, 4, 6] 8 = some ([0, 2, 0], 0) := by decide +kernel
theorem k7 : f34 1100 [3, 5, 6, 8] = some ([0, 1], 0) := by decide +kernel
theorem k8 : f32 1100 [3, 4, 5] = some (false, 0) := by decide +kernel
theorem k9 : f51 1100 [2, 5] [3, 2] 11 = some ([3, 1], 0) := by decide +kernel
theorem k10 : f36 1100 [2, 5] [5, 2] 10 = some (2, 0) := by
  rw [f36_eq (by omega) (by decide)]
  decide +kernel
theorem k11 : f42 1100 [2, 5] [5, 2] 10 0 = some (0, 5, 0) := by
  rw [f42_eq (by omega) (by decide) (by decide)]
  decide +kernel
theorem k12' : tots [2, 5] [1, 1] = [0, 2, 5, 7] := by decide +kernel
theorem k12 : f38 1100 [2, 5] [1, 1] = some ([0, 2, 5, 7], 0) := by
  rw [f38_eq (by omega) (by decide), k12', show stk [2, 5] [1, 1] = 0 from by decide +kernel]
theorem k13 : f40 1100 [2, 5] [1, 1] 3 = some (5, 0) := by
  rw [f40_eq (by omega) (by decide)]
  decide +kernel
theorem k14 : f51 1100 [2, 5] [3, 2] 13 = some ([], 12) := by decide +kernel
theorem f16_of {F : Nat} (hF : 1100 ≤ F) (hF2 : F ≤ 5000) (k1 : f28 F [3, 5] = some ([1, 2, 4, 7], 0)) (k2 : f30 F [6, 10, 15] = some (29, 0)) (k3 : f24 F [6, 10, 15] 0 = some ([0, 25, 20, 15, 10, 35], 0)) (k4 : f17 F [6, 10, 15] 31 = some (true, 0))
    (k5 : f21 F [6, 10, 15] 29 = some (5, 35, 0)) (k6 : f19 F [1, 4, 6] 8 = some ([0, 2, 0], 0)) (k7 : f34 F [3, 5, 6, 8] = some ([0, 1], 0)) (k8 : f32 F [3, 4, 5] = some (false, 0)) (k9 : f51 F [2, 5] [3, 2] 11 = some ([3, 1], 0))
    (k10 : f36 F [2, 5] [5, 2] 10 = some (2, 0)) (k11 : f42 F [2, 5] [5, 2] 10 0 = some (0, 5, 0)) (k12 : f38 F [2, 5] [1, 1] = some ([0, 2, 5, 7], 0)) (k13 : f40 F [2, 5] [1, 1] 3 = some (5, 0)) (k14 : f51 F [2, 5] [3, 2] 13 = some ([], 12)) : f16 F = some true := by
  have e : ∀ l : List Int, l.length < 1100 → f23 F l l = some true := fun l h => by rw [f23_eq (by omega) hF2, decide_eq_true rfl]
  unfold f16
  simp only [f52, Option.bind_some, k1, k2, k3, k4, k5, k6, k7, k8, k9, k10, k11, k12, k13, k14, bne_self_eq_false, Bool.false_eq_true, if_false, beq_self_eq_true, if_true, e [1, 2, 4, 7] (by decide), e [0, 25, 20, 15, 10, 35] (by decide), e [0, 2, 0] (by decide), e [0, 1] (by decide), e [3, 1] (by decide), e [0, 2, 5, 7] (by decide)]
theorem works : f16 1100 = some true := f16_of (by omega) (by omega) k1 k2 k3 k4 k5 k6 k7 k8 k9 k10 k11 k12 k13 k14
end
section
/-- A number is put into numbers in descending order. -/
def ins (x : Int) : List Int → List Int
  | [] => [x]
  | y :: r => if x < y then y :: ins x r else x :: y :: r
theorem ins_len (x : Int) : ∀ r : List Int, (ins x r).length = r.length + 1
  | [] => rfl
  | y :: r => by
    have := ins_len x r
    simp only [ins]
    split <;> simp only [List.length_cons] <;> omega
theorem ins_mem (x z : Int) : ∀ r : List Int, z ∈ ins x r ↔ z = x ∨ z ∈ r
  | [] => by simp [ins]
  | y :: r => by
    have := ins_mem x z r
    simp only [ins]
    split
    · simp only [List.mem_cons, this]
      constructor
      · rintro (h | h | h)
        · exact .inr (.inl h)
        · exact .inl h
        · exact .inr (.inr h)
      · rintro (h | h | h)
        · exact .inr (.inl h)
        · exact .inl h
        · exact .inr (.inr h)
    · simp only [List.mem_cons]
theorem ins_desc {x : Int} : ∀ {r : List Int}, r.Pairwise (· > ·) → x ∉ r → (ins x r).Pairwise (· > ·)
  | [], _, _ => by simp [ins]
  | y :: r, h, hx => by
    rw [List.pairwise_cons] at h
    have hxy : x ≠ y := fun e => hx (by simp [e])
    have hxr : x ∉ r := fun e => hx (by simp [e])
    simp only [ins]
    split
    · rename_i hlt
      rw [List.pairwise_cons]
      refine ⟨fun z hz => ?_, ins_desc h.2 hxr⟩
      rcases (ins_mem x z r).1 hz with rfl | hz
      · exact hlt
      · exact h.1 z hz
    · rename_i hlt
      rw [List.pairwise_cons, List.pairwise_cons]
      refine ⟨fun z hz => ?_, h⟩
      rcases List.mem_cons.1 hz with rfl | hz
      · show x > z; omega
      · have := h.1 z hz
        show x > z
        have : y > z := this
        omega
theorem f99_eq {F : Nat} {x y : Int} : f99 F x y = some (decide (x < y)) := by
  unfold f99 f111
  rw [Option.bind_some, if_neg (by simp)]
theorem f93_p5_eq {F n : Nat} (hn : n ≤ 12) {x4 x18 : Int} : ∀ (r q : List Int) (x : Int) (k : Nat), r.length + 1 + q.length = n → r.length < k →
    f93_p5_1 F 0 n 0 x4 x18 k r.length (r.reverse ++ x :: q) = some ((ins x r).reverse ++ q)
  | [], q, x, k, h1, h2 => by
    obtain ⟨k, rfl⟩ : ∃ m, k = m + 1 := ⟨k - 1, by simp at h2; omega⟩
    unfold f93_p5_1
    rw [if_neg (by simp)]
    rfl
  | y :: r, q, x, k, h1, h2 => by
    simp only [List.length_cons] at h1 h2
    obtain ⟨k, rfl⟩ : ∃ m, k = m + 1 := ⟨k - 1, by omega⟩
    have e1 : ((y :: r).reverse ++ x :: q)[0 + (r.length + 1)]? = some x := by
      rw [Nat.zero_add, List.getElem?_append_right (by simp), List.length_reverse, List.length_cons, Nat.sub_self]; rfl
    have e2 : ((y :: r).reverse ++ x :: q)[0 + r.length]? = some y := by
      rw [Nat.zero_add, List.reverse_cons, List.append_assoc, List.getElem?_append_right (by simp), List.length_reverse, Nat.sub_self]; rfl
    have w1 : w64 (((r.length + 1 : Nat) : Int) - 1) = ((r.length : Nat) : Int) := by rw [w64_in (by omega)]; omega
    have hlen : ((y :: r).reverse ++ x :: q).length = n := by simp; omega
    unfold f93_p5_1
    rw [List.length_cons, if_pos (decide_eq_true (by omega)), req_pos (by omega), Int.toNat_natCast, e1, Option.bind_some, w1, req_pos (by omega), Int.toNat_natCast, e2, Option.bind_some, f99_eq, Option.bind_some]
    by_cases h : x < y
    · rw [if_pos (by simpa using h), req_pos (by rw [hlen]; omega), req_pos (by rw [List.length_set, hlen]; omega)]
      have e3 : (((y :: r).reverse ++ x :: q).set (0 + (r.length + 1)) y).set (0 + r.length) x = r.reverse ++ x :: (y :: q) := by
        rw [Nat.zero_add, Nat.zero_add, List.set_append_right _ _ (by simp), List.length_reverse, List.length_cons, Nat.sub_self, List.set_cons_zero, List.reverse_cons, List.append_assoc, List.set_append_right _ _ (by simp), List.length_reverse, Nat.sub_self]
        rfl
      rw [e3, f93_p5_eq hn r (y :: q) x k (by simp; omega) (by omega), ins, if_pos h]
      simp
    · rw [if_neg (by simpa using h), ins, if_neg h]
      simp
def srt : List Int → List Int → List Int
  | r, [] => r
  | r, x :: q => srt (ins x r) q
theorem f93_p1_eq {F n : Nat} (hF : 20 ≤ F) (hn : n ≤ 12) : ∀ (q r : List Int) (k : Nat), r.length + q.length = n → q.length < k →
    f93_p1 F 0 n 0 n k r.length (r.reverse ++ q) = some (srt r q).reverse
  | [], r, k, h1, h2 => by
    obtain ⟨k, rfl⟩ : ∃ m, k = m + 1 := ⟨k - 1, by simp at h2; omega⟩
    simp only [List.length_nil, Nat.add_zero] at h1
    unfold f93_p1
    rw [if_neg (by simp [h1]), List.append_nil]
    rfl
  | x :: q, r, k, h1, h2 => by
    simp only [List.length_cons] at h1 h2
    obtain ⟨k, rfl⟩ : ∃ m, k = m + 1 := ⟨k - 1, by omega⟩
    unfold f93_p1
    rw [if_pos (by simp; omega), f93_p5_eq hn r q x F (by omega) (by omega), Option.bind_some, w64_succ (by omega)]
    have := f93_p1_eq hF hn q (ins x r) k (by rw [ins_len]; omega) (by omega)
    rw [ins_len] at this
    exact this
theorem f84_look : ((List.range 13).all fun n => (f84 1100 (IntKind.wrap .u64 ((n : Nat) : Int))).isSome) = true := by decide +kernel
theorem f49_eq {l : List Int} (hl : l.length ≤ 12) : f49 1100 l = some (srt [] l).reverse := by
  have h84 := f84_look
  simp only [List.all_eq_true, List.mem_range] at h84
  have h84 := h84 l.length (by omega)
  obtain ⟨v, hv⟩ := Option.isSome_iff_exists.1 h84
  unfold f49
  rw [hv, Option.bind_some]
  have hk : ∀ m F, 20 ≤ F → f83 F (m + 1) 0 l.length 0 l.length v l = some (srt [] l).reverse := by
    intro m F hF
    obtain ⟨G, rfl⟩ : ∃ G, F = G + 1 := ⟨F - 1, by omega⟩
    show f83_b (G + 1) (f83 (G + 1) m) 0 l.length 0 l.length v l = _
    unfold f83_b f83_p1_7
    rw [if_pos (by rw [w64_in (by omega)]; simp; omega)]
    unfold f93
    cases l with
    | nil =>
      have e : f93_p1 (G + 1) 0 0 0 ((0 : Nat) : Int) (G + 1) (w64 (0 + 1)) [] = some [] := by
        unfold f93_p1
        rw [if_neg (by rw [w64_in (by omega)]; simp)]
      show Option.bind (Option.bind (Option.bind (f93_p1 (G + 1) 0 0 0 ((0 : Nat) : Int) (G + 1) (w64 (0 + 1)) []) _) _) _ = _
      rw [e]; rfl
    | cons x q =>
      have e := f93_p1_eq (F := G + 1) (n := (x :: q).length) hF hl q [x] (G + 1) (by simp; omega) (by simp at hl; omega)
      have e' : f93_p1 (G + 1) 0 (x :: q).length 0 ((x :: q).length : Nat) (G + 1) (w64 (0 + 1)) (x :: q) = some (srt [x] q).reverse := by
        rw [show w64 (0 + 1) = ((([x] : List Int).length : Nat) : Int) from by rw [w64_in (by omega)]; rfl]
        exact e
      rw [e']
      rfl
  rw [hk 1099 1100 (by omega), Option.bind_some]
theorem srt_len : ∀ (q r : List Int), (srt r q).length = r.length + q.length
  | [], r => rfl
  | x :: q, r => by rw [srt, srt_len q, ins_len, List.length_cons]; omega
theorem srt_mem (z : Int) : ∀ (q r : List Int), z ∈ srt r q ↔ z ∈ r ∨ z ∈ q
  | [], r => by simp [srt]
  | x :: q, r => by
    rw [srt, srt_mem z q, ins_mem, List.mem_cons]
    constructor
    · rintro ((h | h) | h)
      · exact .inr (.inl h)
      · exact .inl h
      · exact .inr (.inr h)
    · rintro (h | h | h)
      · exact .inl (.inr h)
      · exact .inl (.inl h)
      · exact .inr h
theorem srt_desc : ∀ (q r : List Int), r.Pairwise (· > ·) → q.Nodup → (∀ x ∈ q, x ∉ r) → (srt r q).Pairwise (· > ·)
  | [], r, h, _, _ => h
  | x :: q, r, h, hq, hd => by
    rw [List.nodup_cons] at hq
    refine srt_desc q _ (ins_desc h (hd x (by simp))) hq.2 fun z hz hm => ?_
    rcases (ins_mem x z r).1 hm with rfl | hm
    · exact hq.1 hz
    · exact hd z (by simp [hz]) hm
theorem ckL_asc : ∀ (l : List Int) (p : Int), l.Pairwise (· < ·) → (∀ x ∈ l, 1 ≤ x ∧ x ≤ 30 ∧ p < x) → ckL p l = 0
  | [], _, _, _ => rfl
  | x :: r, p, h, hx => by
    rw [List.pairwise_cons] at h
    have h1 := hx x (by simp)
    rw [ckL, if_pos ⟨h1.1, h1.2.1⟩, if_neg (by omega)]
    exact ckL_asc r x h.2 fun y hy => by
      have := hx y (by simp [hy])
      have := h.1 y hy
      omega
theorem f82_p1_eq {F : Nat} {l : List Int} {x : Int} (hl : l.length ≤ 2000) : ∀ (k i : Nat), i ≤ l.length → l.length < k + i → ∃ z, f82_p1 F l x k i = some z ∧ (x ∈ l.drop i → ∃ j : Int, 0 ≤ j ∧ z = .c0 j) ∧ (x ∉ l.drop i → z = .c1) := by
  intro k
  induction k with
  | zero => intro i _ h; omega
  | succ k ih =>
    intro i h1 h2
    unfold f82_p1
    by_cases hi : i < l.length
    · rw [if_pos (by simp; omega), at_get hi, Option.bind_some, drop_cons hi]
      by_cases h : x = l[i]
      · rw [if_pos (by simp [h])]
        exact ⟨_, rfl, fun _ => ⟨_, by omega, rfl⟩, fun hh => absurd (by rw [h]; exact List.mem_cons_self ..) hh⟩
      · rw [if_neg (by simpa using h), w64_succ (by omega)]
        obtain ⟨z, e1, e2, e3⟩ := ih (i + 1) (by omega) (by omega)
        refine ⟨z, e1, fun hm => e2 ?_, fun hm => e3 fun hh => hm (List.mem_cons_of_mem _ hh)⟩
        rcases List.mem_cons.1 hm with hm | hm
        · exact absurd hm h
        · exact hm
    · rw [if_neg (by simp; omega), List.drop_eq_nil_of_le (by omega)]
      exact ⟨_, rfl, fun h => (by cases h), fun _ => rfl⟩
theorem f48_eq {F : Nat} {l : List Int} {x : Int} (hl : l.length ≤ 1000) (hF : 1100 ≤ F) : f48 F l x = some (decide (x ∈ l)) := by
  obtain ⟨z, e1, e2, e3⟩ := f82_p1_eq (F := F) (l := l) (x := x) (by omega) F 0 (by omega) (by omega)
  rw [List.drop_zero] at e2 e3
  unfold f48 f82
  rw [show f82_p1 F l x F 0 = some z from e1, Option.bind_some]
  by_cases h : x ∈ l
  · obtain ⟨j, hj, rfl⟩ := e2 h
    rw [decide_eq_true h]
    show some (decide (j ≥ 0)) = _
    rw [decide_eq_true (by omega)]
  · rw [e3 h, decide_eq_false h]
    rfl
theorem f44_p1_eq {F : Nat} (hF : 1100 ≤ F) {sz st c : Int} {z t : List Int} (hz : z.length = 4) (hzr : ∀ x ∈ z, 0 ≤ x ∧ x ≤ 255) (hs : 1 ≤ sz ∧ sz ≤ 30) (hc : 0 ≤ c ∧ c ≤ 255) :
    ∀ (k i : Nat) (acc : List Int), (i : Int) ≤ 1 + c % 4 → 1 + c % 4 < k + i → acc.length ≤ i → (0 < i → 0 < acc.length) → acc.Nodup → (∀ x ∈ acc, 1 ≤ x ∧ x ≤ sz) →
    ∃ l, f44_p1 F sz st c z t k i acc = some l ∧ l.length ≤ 4 ∧ 0 < l.length ∧ l.Nodup ∧ (∀ x ∈ l, 1 ≤ x ∧ x ≤ sz) := by
  have ew : w64 (1 + Int.tmod (w64 c) 4) = 1 + c % 4 := by rw [w64_in (n := c) (by omega), Int.tmod_eq_emod_of_nonneg (by omega), w64_in (by omega)]
  intro k
  induction k with
  | zero => intro i acc _ h; omega
  | succ k ih =>
    intro i acc h1 h2 h3 h4 h5 h6
    unfold f44_p1
    rw [ew]
    by_cases hi : (i : Int) < 1 + c % 4
    · have hi4 : i < z.length := by omega
      have hx := hzr _ (List.getElem_mem hi4)
      have e : w64 (1 + Int.tmod (w64 z[i]) sz) = 1 + z[i] % sz := by
        have := Int.emod_nonneg z[i] (b := sz) (by omega)
        have := Int.emod_lt_of_pos z[i] (b := sz) (by omega)
        rw [w64_in (n := z[i]) (by omega), Int.tmod_eq_emod_of_nonneg (by omega), w64_in (by omega)]
      rw [if_pos (by simpa using hi), req_pos (by omega), Int.toNat_natCast, Nat.mul_one, Nat.zero_add, List.getElem?_eq_getElem hi4, Option.bind_some, req_pos (by omega), take0, e, f48_eq (by omega) hF, Option.bind_some, w64_succ (by omega)]
      have m1 := Int.emod_nonneg z[i] (b := sz) (by omega)
      have m2 := Int.emod_lt_of_pos z[i] (b := sz) (by omega)
      unfold f44_p4_1
      by_cases hm : 1 + z[i] % sz ∈ acc
      · rw [if_pos (by simpa using hm), Option.bind_some]
        exact ih (i + 1) acc (by omega) (by omega) (by omega) (fun _ => List.length_pos_of_mem hm) h5 h6
      · rw [if_neg (by simpa using hm), e, req_pos (by simp; omega), Option.bind_some]
        refine ih (i + 1) _ (by omega) (by omega) (by simp; omega) (fun _ => by simp) ?_ ?_
        · rw [List.nodup_append]
          refine ⟨h5, by simp, fun a ha b hb => ?_⟩
          rw [List.mem_singleton] at hb
          intro hab
          subst hab; subst hb
          exact hm ha
        · intro x hx
          rcases List.mem_append.1 hx with hx | hx
          · exact h6 x hx
          · rw [List.mem_singleton] at hx
            omega
    · rw [if_neg (by simpa using hi)]
      exact ⟨acc, rfl, by omega, h4 (by omega), h5, h6⟩
theorem f44_p6_eq {F : Nat} {st c : Int} {z t l u : List Int} (ht : t.length = 4) (htr : ∀ x ∈ t, 0 ≤ x ∧ x ≤ 255) (hs : 0 ≤ st ∧ st ≤ 40) (hl : l.length ≤ 4) :
    ∀ (k i : Nat) (acc : List Int), i ≤ l.length → l.length < k + i → acc.length = i → (∀ x ∈ acc, 0 ≤ x ∧ x ≤ st) →
    ∃ b, f44_p6 F st l u z t c k i acc = some b ∧ b.length = l.length ∧ (∀ x ∈ b, 0 ≤ x ∧ x ≤ st) := by
  intro k
  induction k with
  | zero => intro i acc _ h; omega
  | succ k ih =>
    intro i acc h1 h2 h3 h4
    unfold f44_p6
    by_cases hi : i < l.length
    · have hi4 : i < t.length := by omega
      have hx := htr _ (List.getElem_mem hi4)
      have m1 := Int.emod_nonneg t[i] (b := st + 1) (by omega)
      have m2 := Int.emod_lt_of_pos t[i] (b := st + 1) (by omega)
      have e : Int.tmod (w64 t[i]) (w64 (st + 1)) = t[i] % (st + 1) := by
        rw [w64_in (n := t[i]) (by omega), w64_in (n := st + 1) (by omega), Int.tmod_eq_emod_of_nonneg (by omega)]
      rw [if_pos (by simp; omega), req_pos (by omega), Int.toNat_natCast, Nat.mul_one, Nat.zero_add, List.getElem?_eq_getElem hi4, Option.bind_some, req_pos (by rw [w64_in (by omega)]; omega), req_pos (by simp; omega), e, w64_succ (by omega)]
      refine ih (i + 1) _ (by omega) (by omega) (by simp; omega) fun x hx => ?_
      rcases List.mem_append.1 hx with hx | hx
      · exact h4 x hx
      · rw [List.mem_singleton] at hx
        omega
    · rw [if_neg (by simp; omega)]
      exact ⟨acc, rfl, by omega, h4⟩
theorem made_eq {sz st c : Int} {z t : List Int} (hz : z.length = 4) (hzr : ∀ x ∈ z, 0 ≤ x ∧ x ≤ 255) (ht : t.length = 4) (htr : ∀ x ∈ t, 0 ≤ x ∧ x ≤ 255) (hs : 1 ≤ sz ∧ sz ≤ 30) (hst : 0 ≤ st ∧ st ≤ 40) (hc : 0 ≤ c ∧ c ≤ 255) :
    ∃ a b, f44 1100 z t c sz st = some (a, b) ∧ stk a b = 0 ∧ a.length ≤ 4 ∧ (∀ x ∈ a, 1 ≤ x ∧ x ≤ sz) ∧ (∀ x ∈ b, 0 ≤ x ∧ x ≤ st) := by
  obtain ⟨l, e1, e2, e3, e4, e5⟩ := f44_p1_eq (F := 1100) (by omega) (st := st) (t := t) hz hzr hs hc 1100 0 [] (by omega) (by omega) (by simp) (by omega) (by simp) (by simp)
  have hm : ∀ x ∈ (srt [] l).reverse, x ∈ l := fun x hx => by
    have := (srt_mem x l []).1 (List.mem_reverse.1 hx)
    rcases this with h | h
    · cases h
    · exact h
  have hlen : (srt [] l).reverse.length = l.length := by rw [List.length_reverse, srt_len]; simp
  obtain ⟨b, g1, g2, g3⟩ := f44_p6_eq (F := 1100) (c := c) (z := z) (u := (srt [] l).reverse) ht htr hst e2 1100 0 [] (by omega) (by omega) rfl (by simp)
  refine ⟨(srt [] l).reverse, b, ?_, ?_, by omega, fun x hx => e5 x (hm x hx), g3⟩
  · unfold f44
    rw [show f44_p1 1100 sz st c z t 1100 0 [] = some l from e1, Option.bind_some, f49_eq (by omega), Option.bind_some, show f44_p6 1100 st l (srt [] l).reverse z t c 1100 0 [] = some b from g1, Option.bind_some, req_pos (by omega), take0, ← hlen, take0]
  · have hasc : (srt [] l).reverse.Pairwise (· < ·) := by
      rw [List.pairwise_reverse]
      exact srt_desc l [] List.Pairwise.nil e4 (by simp)
    have hck : ck (srt [] l).reverse = 0 := by
      unfold ck
      rw [if_neg (by omega), if_neg (by omega)]
      exact ckL_asc _ 0 hasc fun x hx => by have := e5 x (hm x hx); omega
    unfold stk
    rw [if_pos hck, if_pos (by omega), if_pos (stOk_iff.2 fun x hx => by have := g3 x hx; omega)]
end
section
/-- c terms of G, s apart. -/
def wi (s : Int) (G : Int → Int) : Nat → Int → Int
  | 0, _ => 0
  | c + 1, x => G x + wi s G c (x - s)
def ex (g : Nat → Int) (y : Int) : Int := if 0 ≤ y then g y.toNat else 0
theorem wi_last {s : Int} {G : Int → Int} : ∀ (c : Nat) (x : Int), wi s G (c + 1) x = wi s G c x + G (x - c * s)
  | 0, x => by simp [wi]
  | c + 1, x => by
    have d1 : wi s G (c + 1 + 1) x = G x + wi s G (c + 1) (x - s) := rfl
    have d2 : wi s G (c + 1) x = G x + wi s G c (x - s) := rfl
    rw [d1, d2, wi_last c (x - s), show x - s - c * s = x - ((c + 1 : Nat) : Int) * s by rw [Int.natCast_add, Int.add_mul]; simp; omega]
    omega
theorem wi_zero {s : Int} : ∀ (c : Nat) (x : Int), wi s (fun _ => 0) c x = 0
  | 0, _ => rfl
  | c + 1, x => by rw [wi, wi_zero c]; rfl
theorem wi_add {s : Int} {G H : Int → Int} : ∀ (c : Nat) (x : Int), wi s (fun y => G y + H y) c x = wi s G c x + wi s H c x
  | 0, _ => rfl
  | c + 1, x => by rw [wi, wi, wi, wi_add c]; omega
theorem wi_shift {s d : Int} {G : Int → Int} : ∀ (c : Nat) (x : Int), wi s (fun y => G (y - d)) c x = wi s G c (x - d)
  | 0, _ => rfl
  | c + 1, x => by rw [wi, wi, wi_shift c, show x - s - d = x - d - s by omega]
theorem wi_comm {s t : Int} {G : Int → Int} (m : Nat) : ∀ (c : Nat) (x : Int), wi s (wi t G m) c x = wi t (wi s G c) m x
  | 0, x => by
    have e : wi s G 0 = fun _ => 0 := rfl
    rw [e, wi_zero]; rfl
  | c + 1, x => by
    have e : wi s G (c + 1) = fun y => G y + wi s G c (y - s) := rfl
    rw [e, wi_add, wi_shift (G := wi s G c), wi, wi_comm m c]
theorem ex_ws {s : Nat} {g : Nat → Int} : ∀ (c : Nat) (x : Int), ex (ws s g c) x = wi s (ex g) c x
  | 0, x => by
    unfold ex
    split <;> rfl
  | c + 1, x => by
    rw [wi, ← ex_ws c]
    unfold ex
    by_cases h : 0 ≤ x
    · rw [if_pos h, if_pos h, ws]
      by_cases h2 : s ≤ x.toNat
      · rw [if_pos h2, if_pos (by omega), show (x - (s : Int)).toNat = x.toNat - s by omega]
      · rw [if_neg h2, if_neg (by omega)]
    · rw [if_neg h, if_neg h, if_neg (by omega)]; rfl
def dl (x : Int) : Int := if x = 0 then 1 else 0
def uf : List Int → List Int → Int → Int
  | s :: a, c :: b => wi s (uf a b) (c.toNat + 1)
  | _, _ => dl
def wfi : (Int → Int) → List Int → List Int → Int → Int
  | G, s :: a, c :: b => wfi (wi s G (c.toNat + 1)) a b
  | G, [], _ => G
  | G, _, [] => G
theorem wfi_wi : ∀ (a b : List Int) (s : Int) (m : Nat) (G : Int → Int), wfi (wi s G m) a b = wi s (wfi G a b) m
  | [], _, _, _, _ => by simp [wfi]
  | _ :: _, [], _, _, _ => by simp [wfi]
  | t :: a, d :: b, s, m, G => by
    have e : wi t (wi s G m) (d.toNat + 1) = wi s (wi t G (d.toNat + 1)) m := funext fun x => wi_comm m _ x
    rw [wfi, wfi, e, wfi_wi a b]
theorem wfi_uf : ∀ (a b : List Int), wfi dl a b = uf a b
  | [], b => by cases b <;> rfl
  | _ :: _, [] => rfl
  | s :: a, c :: b => by rw [wfi, wfi_wi, wfi_uf a b]; rfl
theorem ex_wf : ∀ (a b : List Int) (g : Nat → Int), (∀ x ∈ a, 0 ≤ x) → ex (wf g a b) = wfi (ex g) a b
  | [], _, _, _ => by simp [wf, wfi]
  | _ :: _, [], _, _ => by simp [wf, wfi]
  | s :: a, c :: b, g, h => by
    have hs := h s (by simp)
    have e : ex (ws s.toNat g (c.toNat + 1)) = wi s (ex g) (c.toNat + 1) := funext fun x => by
      have := ex_ws (s := s.toNat) (g := g) (c.toNat + 1) x
      rwa [Int.toNat_of_nonneg hs] at this
    rw [wf, wfi, ex_wf a b _ (fun x hx => h x (by simp [hx])), e]
theorem W_uf {a b : List Int} (h : ∀ x ∈ a, 0 ≤ x) (n : Nat) : W a b n = uf a b n := by
  have e0 : ex g0 = dl := funext fun x => by
    unfold ex g0 dl
    by_cases h : x = 0
    · subst h; rfl
    · rw [if_neg h]
      by_cases h2 : 0 ≤ x
      · rw [if_pos h2, if_neg (by omega)]
      · rw [if_neg h2]
  have e := congrFun (ex_wf a b g0 h) (n : Int)
  rw [e0, wfi_uf] at e
  rw [← e]
  unfold ex W
  rw [if_pos (by omega), Int.toNat_natCast]
def cntT : List Int → List Int → Int
  | _ :: a, c :: b => ((c.toNat + 1 : Nat) : Int) * cntT a b
  | _, _ => 1
theorem cntT_pos : ∀ (a b : List Int), 1 ≤ cntT a b
  | [], b => by cases b <;> simp [cntT]
  | _ :: _, [] => by simp [cntT]
  | s :: a, c :: b => by
    have h := cntT_pos a b
    have : ((c.toNat + 1 : Nat) : Int) * 1 ≤ ((c.toNat + 1 : Nat) : Int) * cntT a b := Int.mul_le_mul_of_nonneg_left h (by omega)
    rw [cntT]; omega
end
section
/-- The fewest packets with at most c of size s, what g tells of the rest; and with how few of s. -/
def mv (s : Nat) (g : Nat → Int) : Nat → Nat → Int
  | 0, x => g x
  | c + 1, x => if (c + 1) * s ≤ x ∧ g (x - (c + 1) * s) + ((c + 1 : Nat) : Int) < mv s g c x then g (x - (c + 1) * s) + ((c + 1 : Nat) : Int) else mv s g c x
def ma (s : Nat) (g : Nat → Int) : Nat → Nat → Nat
  | 0, _ => 0
  | c + 1, x => if (c + 1) * s ≤ x ∧ g (x - (c + 1) * s) + ((c + 1 : Nat) : Int) < mv s g c x then c + 1 else ma s g c x
/-- m is the first best number. -/
structure Fst (s : Nat) (g : Nat → Int) (c x m : Nat) : Prop where
  le : m ≤ c
  fit : m * s ≤ x
  best : ∀ j, j ≤ c → j * s ≤ x → g (x - m * s) + m ≤ g (x - j * s) + j
  first : ∀ j, j < m → j * s ≤ x → g (x - m * s) + m < g (x - j * s) + j
theorem ma_fst {s : Nat} {g : Nat → Int} (x : Nat) : ∀ c, Fst s g c x (ma s g c x) ∧ mv s g c x = g (x - ma s g c x * s) + (ma s g c x : Nat)
  | 0 => by
    refine ⟨⟨by simp [ma], by simp [ma], fun j h _ => ?_, fun j h => by simp [ma] at h⟩, by simp [ma, mv]⟩
    have : j = 0 := by omega
    subst this; simp [ma]
  | c + 1 => by
    obtain ⟨h1, h2⟩ := ma_fst (s := s) (g := g) x c
    have d1 : mv s g (c + 1) x = if (c + 1) * s ≤ x ∧ g (x - (c + 1) * s) + ((c + 1 : Nat) : Int) < mv s g c x then g (x - (c + 1) * s) + ((c + 1 : Nat) : Int) else mv s g c x := rfl
    have d2 : ma s g (c + 1) x = if (c + 1) * s ≤ x ∧ g (x - (c + 1) * s) + ((c + 1 : Nat) : Int) < mv s g c x then c + 1 else ma s g c x := rfl
    rw [d1, d2]
    by_cases h : (c + 1) * s ≤ x ∧ g (x - (c + 1) * s) + ((c + 1 : Nat) : Int) < mv s g c x
    · rw [if_pos h, if_pos h]
      refine ⟨⟨Nat.le_refl _, h.1, fun j hj hx => ?_, fun j hj hx => ?_⟩, rfl⟩
      · by_cases e : j = c + 1
        · subst e; exact Int.le_refl _
        · have := h1.best j (by omega) hx
          omega
      · have := h1.best j (by omega) hx
        omega
    · rw [if_neg h, if_neg h]
      refine ⟨⟨Nat.le_succ_of_le h1.le, h1.fit, fun j hj hx => ?_, h1.first⟩, h2⟩
      by_cases e : j = c + 1
      · subst e
        have : ¬ g (x - (c + 1) * s) + ((c + 1 : Nat) : Int) < mv s g c x := fun hh => h ⟨hx, hh⟩
        omega
      · exact h1.best j (by omega) hx
theorem Fst.uniq {s : Nat} {g : Nat → Int} {c x m : Nat} (h : Fst s g c x m) : ma s g c x = m ∧ mv s g c x = g (x - m * s) + (m : Nat) := by
  obtain ⟨k, e⟩ := ma_fst (s := s) (g := g) x c
  have : ma s g c x = m := by
    rcases Nat.lt_trichotomy (ma s g c x) m with hlt | he | hlt
    · have := h.first _ hlt k.fit
      have := k.best m h.le h.fit
      omega
    · exact he
    · have := k.first _ hlt h.fit
      have := h.best _ k.le k.fit
      omega
  rw [this] at e
  exact ⟨this, e⟩
def cst (w : List Nat) : List Int := w.map fun (i : Nat) => (i : Int)
theorem cst_len (w : List Nat) : (cst w).length = w.length := by simp [cst]
theorem cst_app (u v : List Nat) : cst (u ++ v) = cst u ++ cst v := by simp [cst]
variable {F n : Nat} {a b : List Int} {g : Nat → Int} {s r most : Nat} {p : Int} {C : List (List Int)}
theorem f89_eq (hn : n ≤ 1000) (hg : ∀ y, 0 ≤ g y ∧ g y ≤ 1001) {i j : Nat} (hi : r + i * s ≤ n) (hi2 : i ≤ 1000) (hj : j ≤ 1000) : f89_1 F i (tab (n + 1) g) s r j = some (g (r + i * s) + j - i) := by
  unfold f89_1
  have e : (i : Int) * s = ((i * s : Nat) : Int) := (Int.natCast_mul ..).symm
  have := hg (r + i * s)
  rw [e, w64_in (n := ((i * s : Nat) : Int)) (by omega), show w64 ((r : Int) + ((i * s : Nat) : Int)) = ((r + i * s : Nat) : Int) by rw [w64_in (by omega)]; omega, tab_at _ (by omega), Option.bind_some, w64_in (n := g (r + i * s) + j) (by omega), w64_in (by omega)]
theorem pop_eq (hn : n ≤ 1000) (hg : ∀ y, 0 ≤ g y ∧ g y ≤ 1001) {x179 x180 : List Int} {j : Nat} (hj : r + j * s ≤ n) (hj2 : j ≤ 1000) : ∀ (k : Nat) (w : List Nat), w.length < k → w.length ≤ 1001 → (∀ i ∈ w, r + i * s ≤ n ∧ i ≤ 1000) →
    ∃ u v, w = u ++ v ∧ f65_p17_17 F n a p most s r b (tab (n + 1) g) C x179 x180 j k (cst w) = some (cst u) ∧ (∀ i ∈ v, g (r + j * s) - j ≤ g (r + i * s) - i) ∧ (∀ i, u.getLast? = some i → g (r + i * s) - i < g (r + j * s) - j) := by
  intro k
  induction k with
  | zero => intro w h; omega
  | succ k ih =>
    intro w h1 hw1 h2
    rcases List.eq_nil_or_concat w with rfl | ⟨w', x, rfl⟩
    · refine ⟨[], [], rfl, ?_, by simp, by simp⟩
      unfold f65_p17_17
      rw [if_neg (by simp [cst])]
    · rw [List.concat_eq_append] at h1 h2 hw1 ⊢
      have hx := h2 x (by simp)
      have hlen : (cst (w' ++ [x])).length = w'.length + 1 := by simp [cst_len]
      simp only [List.length_append, List.length_singleton] at h1 hw1
      have e1 : w64 (((w'.length + 1 : Nat) : Int) - 1) = ((w'.length : Nat) : Int) := by rw [w64_in (by omega)]; omega
      have e2 : (cst (w' ++ [x]))[0 + w'.length]? = some (x : Int) := by
        rw [cst_app, Nat.zero_add, List.getElem?_append_right (by rw [cst_len]; exact Nat.le_refl _), cst_len, Nat.sub_self]; rfl
      have e3 : List.drop 0 (List.take w'.length (cst (w' ++ [x]))) = cst w' := by
        rw [List.drop_zero, cst_app, List.take_append_of_le_length (by rw [cst_len]; exact Nat.le_refl _), List.take_of_length_le (by rw [cst_len]; exact Nat.le_refl _)]
      unfold f65_p17_17
      rw [hlen, if_pos (decide_eq_true (by omega)), e1, req_pos (by omega), Int.toNat_natCast, e2, Option.bind_some, f89_eq hn hg hx.1 hx.2 hj2, Option.bind_some, f89_eq hn hg hj hj2 hj2, Option.bind_some]
      by_cases hc : g (r + x * s) + j - x ≥ g (r + j * s) + j - j
      · rw [if_pos (by simpa using hc), req_pos (by omega), req_pos (by simp), e3]
        obtain ⟨u, v, rfl, r1, r2, r3⟩ := ih w' (by omega) (by omega) fun i hi => h2 i (by simp [hi])
        refine ⟨u, v ++ [x], by simp, r1, fun i hi => ?_, r3⟩
        rcases List.mem_append.1 hi with hi | hi
        · exact r2 i hi
        · rw [List.mem_singleton] at hi
          subst hi; omega
      · rw [if_neg (by simpa using hc)]
        refine ⟨w' ++ [x], [], by simp, rfl, by simp, fun i hi => ?_⟩
        simp only [List.getLast?_append, List.getLast?_singleton, Option.some_or] at hi
        cases hi
        omega
/-- The window, ahead of number j. -/
structure Win (g : Nat → Int) (s r most : Nat) (w : List Nat) (j : Nat) : Prop where
  pw : w.Pairwise fun i i' => i < i' ∧ g (r + i * s) - i < g (r + i' * s) - i'
  rng : ∀ i ∈ w, j ≤ i + most + 1 ∧ i < j
  cov : ∀ i, i < j → j ≤ i + most + 1 → ∃ i' ∈ w, i ≤ i' ∧ g (r + i' * s) - i' ≤ g (r + i * s) - i
theorem Win.push {w u v : List Nat} {j : Nat} (h : Win g s r most w j) (hw : w = u ++ v) (hv : ∀ i ∈ v, g (r + j * s) - j ≤ g (r + i * s) - i) (hu : ∀ i, u.getLast? = some i → g (r + i * s) - i < g (r + j * s) - j) :
    (u ++ [j]).Pairwise (fun i i' => i < i' ∧ g (r + i * s) - i < g (r + i' * s) - i') ∧ (∀ i ∈ u ++ [j], j ≤ i + most + 1 ∧ i ≤ j) ∧ (∀ i, i ≤ j → j ≤ i + most → ∃ i' ∈ u ++ [j], i ≤ i' ∧ g (r + i' * s) - i' ≤ g (r + i * s) - i) := by
  subst hw
  have pu := (List.pairwise_append.1 h.pw).1
  have hall : ∀ i ∈ u, g (r + i * s) - i < g (r + j * s) - j := by
    intro i hi
    rcases List.eq_nil_or_concat u with rfl | ⟨u', x, rfl⟩
    · cases hi
    · rw [List.concat_eq_append] at hi pu hu
      have hx := hu x (by simp)
      rcases List.mem_append.1 hi with hi | hi
      · have := ((List.pairwise_append.1 pu).2.2 i hi x (by simp)).2
        omega
      · rw [List.mem_singleton] at hi
        subst hi; exact hx
  refine ⟨?_, fun i hi => ?_, fun i hi hm => ?_⟩
  · rw [List.pairwise_append]
    refine ⟨pu, by simp, fun i hi i' hi' => ?_⟩
    rw [List.mem_singleton] at hi'
    subst hi'
    exact ⟨(h.rng i (by simp [hi])).2, hall i hi⟩
  · rcases List.mem_append.1 hi with hi | hi
    · have := h.rng i (by simp [hi]); omega
    · rw [List.mem_singleton] at hi; omega
  · by_cases e : i = j
    · subst e; exact ⟨i, by simp, Nat.le_refl _, Int.le_refl _⟩
    · obtain ⟨i', h1, h2, h3⟩ := h.cov i (by omega) (by omega)
      rcases List.mem_append.1 h1 with h1 | h1
      · exact ⟨i', by simp [h1], h2, h3⟩
      · have := hv i' h1
        exact ⟨j, by simp, by omega, by omega⟩
def val (s most : Nat) (g : Nat → Int) (x : Nat) : Int := if mv s g most x < 1001 then mv s g most x else 1001
theorem p13_eq (hF : 1100 ≤ F) (hn : n ≤ 1000) (hg : ∀ y, 0 ≤ g y ∧ g y ≤ 1001) (hs : 1 ≤ s) (hs2 : s ≤ 30) (hr : r < s) (hrn : r ≤ n) (hmost : most ≤ 1000) : ∀ (k j : Nat) (N B : Nat → Int) (w : List Nat), n + 1 < k + j → j ≤ n + 1 → w.length ≤ j → Win g s r most w j →
    ∃ N' B', f65_p13_5 F n a p most s r b (tab (n + 1) g) C k (tab (n + 1) N) (tab (n + 1) B) j (cst w) = some (tab (n + 1) N', tab (n + 1) B') ∧
      (∀ y, y % s = r → r + j * s ≤ y → y ≤ n → N' y = val s most g y ∧ B' y = (ma s g most y : Nat)) ∧ (∀ y, ¬ (y % s = r ∧ r + j * s ≤ y) → N' y = N y ∧ B' y = B y) := by
  intro k
  induction k with
  | zero =>
    intro j N B w h1 h2 h3 hw
    omega
  | succ k ih =>
    intro j N B w h1 h2 h3 hw
    have hjs : j ≤ j * s := Nat.le_mul_of_pos_right j hs
    have e : (j : Int) * s = ((j * s : Nat) : Int) := (Int.natCast_mul ..).symm
    unfold f65_p13_5
    by_cases hx : r + j * s ≤ n
    · have ex : w64 ((r : Int) + w64 ((j : Int) * s)) = ((r + j * s : Nat) : Int) := by
        rw [e, w64_in (n := ((j * s : Nat) : Int)) (by omega), w64_in (by omega)]; omega
      have hwr : ∀ i ∈ w, r + i * s ≤ n ∧ i ≤ 1000 := fun i hi => by
        have := (hw.rng i hi).2
        have : i * s ≤ j * s := Nat.mul_le_mul_right s (by omega)
        omega
      obtain ⟨u, v, e1, e2, e3, e4⟩ := pop_eq (F := F) (a := a) (b := b) (p := p) (C := C) (most := most) (x179 := tab (n + 1) N) (x180 := tab (n + 1) B) hn hg hx (by omega) F w (by omega) (by omega) hwr
      obtain ⟨q1, q2, q3⟩ := hw.push e1 e3 e4
      have hul : u.length ≤ w.length := by rw [e1]; simp
      -- the window behind this number
      obtain ⟨w3, z1, z2, z3⟩ : ∃ w3 : List Nat, f65_p20_17 F n a p most (cst u) j s r (((u ++ [j]).headD 0 : Nat) : Int) b (tab (n + 1) g) C (tab (n + 1) N) (tab (n + 1) B) = some (cst w3) ∧ Win g s r most w3 (j + 1) ∧ w3.length ≤ j + 1 := by
        unfold f65_p20_17
        have hcu : cst u ++ [(j : Int)] = cst (u ++ [j]) := by rw [cst_app]; rfl
        rw [hcu, cst_len]
        generalize hW : u ++ [j] = W at *
        have hWl : W.length = u.length + 1 := by rw [← hW]; simp
        cases W with
        | nil => simp at hWl
        | cons i0 W' =>
          rw [List.headD_cons]
          rw [List.pairwise_cons] at q1
          have hi0 := q2 i0 (by simp)
          by_cases hd : i0 + most < j
          · have hne : W' ≠ [] := by
              intro hnil
              subst hnil
              have : j = i0 := by
                have hm : j ∈ u ++ [j] := by simp
                rw [hW] at hm
                simpa using hm
              omega
            have hpos : 0 < W'.length := List.length_pos_iff.2 hne
            simp only [List.length_cons]
            rw [if_pos (by rw [w64_in (by omega)]; simp; omega), req_pos (by omega), req_pos (by omega)]
            refine ⟨W', ?_, ⟨q1.2, fun i hi => ?_, fun i hi hm => ?_⟩, ?_⟩
            · rw [show W'.length + 1 = (cst (i0 :: W')).length by rw [cst_len]; rfl, List.take_length]; rfl
            · have := q2 i (by simp [hi])
              have := (q1.1 i hi).1
              omega
            · obtain ⟨i', g1, g2, g3⟩ := q3 i (by omega) (by omega)
              rcases List.mem_cons.1 g1 with rfl | g1
              · omega
              · exact ⟨i', g1, g2, g3⟩
            · simp only [List.length_cons] at hWl; omega
          · rw [if_neg (by rw [w64_in (by omega)]; simp; omega)]
            refine ⟨i0 :: W', rfl, ⟨List.pairwise_cons.2 q1, fun i hi => ?_, fun i hi hm => q3 i (by omega) (by omega)⟩, ?_⟩
            · have := q2 i hi
              rcases List.mem_cons.1 hi with rfl | hi
              · omega
              · have := (q1.1 i hi).1
                omega
            · omega
      have hhead : (cst u ++ [(j : Int)])[0]? = some (((u ++ [j]).headD 0 : Nat) : Int) := by
        cases u <;> rfl
      -- its first number is the best one
      obtain ⟨i0, W', hw3⟩ : ∃ i0 W', w3 = i0 :: W' := by
        cases w3 with
        | nil =>
          obtain ⟨i', g1, _⟩ := z2.cov j (by omega) (by omega)
          cases g1
        | cons i0 W' => exact ⟨i0, W', rfl⟩
      subst hw3
      have hr0 := z2.rng i0 (by simp)
      have hpw := List.pairwise_cons.1 z2.pw
      have key : ∀ i, i ≤ j → j ≤ i + most → g (r + i0 * s) - i0 ≤ g (r + i * s) - i ∧ (i0 < i → g (r + i0 * s) - i0 < g (r + i * s) - i) := by
        intro i hi hm
        obtain ⟨i', g1, g2, g3⟩ := z2.cov i (by omega) (by omega)
        rcases List.mem_cons.1 g1 with rfl | g1
        · exact ⟨g3, fun h => by omega⟩
        · have := (hpw.1 i' g1).2
          exact ⟨by omega, fun _ => by omega⟩
      have hmul : ∀ i, i ≤ j → r + j * s - (j - i) * s = r + i * s := fun i hi => by
        have h1 : (j - i) * s + i * s = j * s := by rw [← Nat.add_mul, Nat.sub_add_cancel hi]
        omega
      have hfst : Fst s g most (r + j * s) (j - i0) := by
        have hle : ∀ c, c * s ≤ r + j * s → c ≤ j := fun c hc => by
          rcases Nat.lt_or_ge j c with h | h
          · have : (j + 1) * s ≤ c * s := Nat.mul_le_mul_right s h
            rw [Nat.add_mul, Nat.one_mul] at this
            omega
          · exact h
        have hsub : ∀ c, c ≤ j → g (r + j * s - c * s) = g (r + (j - c) * s) := fun c hc => by
          have := hmul (j - c) (by omega)
          rw [show j - (j - c) = c by omega] at this
          rw [this]
        refine ⟨by omega, ?_, fun c hc hcs => ?_, fun c hc hcs => ?_⟩
        · have : (j - i0) * s ≤ j * s := Nat.mul_le_mul_right s (by omega)
          omega
        · have hcj := hle c hcs
          have := (key (j - c) (by omega) (by omega)).1
          rw [hmul i0 (by omega), hsub c hcj]
          omega
        · have hcj := hle c hcs
          have := (key (j - c) (by omega) (by omega)).2 (by omega)
          rw [hmul i0 (by omega), hsub c hcj]
          omega
      obtain ⟨u1, u2⟩ := hfst.uniq
      rw [hmul i0 (by omega)] at u2
      have hgi := hg (r + i0 * s)
      have hi0n : r + i0 * s ≤ n := by
        have : i0 * s ≤ j * s := Nat.mul_le_mul_right s (by omega)
        omega
      rw [ex, if_pos (by simp; omega), e2, Option.bind_some, req_pos (by rw [cst_len, List.length_singleton]; omega), req_pos (by rw [List.length_append, cst_len, List.length_singleton]; omega), hhead, Option.bind_some, z1, Option.bind_some, req_pos (by rw [cst_len]; simp), show (cst (i0 :: W'))[0]? = some (i0 : Int) from rfl, Option.bind_some, f89_eq hn hg hi0n (by omega) (by omega), Option.bind_some,
        w64_succ (n := n) (by omega), Int.toNat_natCast, req_pos (by omega), Int.toNat_natCast, Nat.zero_add, req_pos (by rw [tab_len]; omega), req_pos (by rw [tab_len]; omega), tab_set, tab_set, w64_succ (by omega)]
      obtain ⟨N', B', r1, r2, r3⟩ := ih (j + 1) _ _ (i0 :: W') (by omega) (by omega) z3 z2
      refine ⟨N', B', r1, fun y y1 y2 y3 => ?_, fun y hy => ?_⟩
      · by_cases hy : y = r + j * s
        · have := r3 y (fun hh => by rw [Nat.add_mul, Nat.one_mul] at hh; omega)
          rw [this.1, this.2, if_pos hy, if_pos hy, hy]
          refine ⟨?_, ?_⟩
          · unfold val
            rw [u2]
            have e5 : g (r + i0 * s) + ((j - i0 : Nat) : Int) = g (r + i0 * s) + j - i0 := by omega
            rw [e5]
          · rw [u1, w64_in (by omega)]; omega
        · refine r2 y y1 ?_ y3
          have hd := Nat.div_add_mod y s
          rw [y1] at hd
          rw [Nat.add_mul, Nat.one_mul]
          have h5 : j ≤ y / s := by
            rcases Nat.lt_or_ge (y / s) j with h | h
            · have : (y / s + 1) * s ≤ j * s := Nat.mul_le_mul_right s h
              rw [Nat.add_mul, Nat.one_mul, Nat.mul_comm] at this
              omega
            · exact h
          have h6 : y / s ≠ j := fun hh => by
            rw [hh, Nat.mul_comm] at hd; omega
          have h7 : (j + 1) * s ≤ (y / s) * s := Nat.mul_le_mul_right s (by omega)
          rw [Nat.add_mul, Nat.one_mul, Nat.mul_comm (y / s)] at h7
          omega
      · have := r3 y (fun hh => by rw [Nat.add_mul, Nat.one_mul] at hh; exact hy ⟨hh.1, by omega⟩)
        rw [this.1, this.2]
        have hne : y ≠ r + j * s := fun hh => by
          refine hy ⟨?_, by omega⟩
          rw [hh, Nat.add_mul_mod_self_right, Nat.mod_eq_of_lt hr]
        rw [if_neg hne, if_neg hne]
        exact ⟨rfl, rfl⟩
    · have ex : ¬ (w64 ((r : Int) + w64 ((j : Int) * s)) ≤ (n : Int)) := by
        by_cases hsb : s ≤ 100000
        · have : j * s ≤ 1001 * 100000 := Nat.mul_le_mul (by omega) hsb
          rw [e, w64_in (n := ((j * s : Nat) : Int)) (by omega), w64_in (by omega)]; omega
        · exact absurd (show s ≤ 100000 by omega) hsb
      rw [if_neg (by simpa using ex)]
      exact ⟨N, B, rfl, fun y y1 y2 y3 => by omega, fun y _ => ⟨rfl, rfl⟩⟩
end
section
def fw : List Int → List Int → Nat → Int
  | s :: a, c :: b => val s.toNat c.toNat (fw a b)
  | _, _ => fun x => if x = 0 then 0 else 1001
def fillL : List Int → List Int → Nat → List Int
  | s :: a, c :: b, m => (ma s.toNat (fw a b) c.toNat m : Nat) :: fillL a b (m - ma s.toNat (fw a b) c.toNat m * s.toNat)
  | _, _, _ => []
def byl (n : Nat) : List Int → List Int → List (List Int)
  | s :: a, c :: b => tab (n + 1) (fun y => (ma s.toNat (fw a b) c.toNat y : Nat)) :: byl n a b
  | _, _ => []
theorem mv_nonneg {s : Nat} {g : Nat → Int} (h : ∀ y, 0 ≤ g y) (c x : Nat) : 0 ≤ mv s g c x := by
  obtain ⟨_, e⟩ := ma_fst (s := s) (g := g) x c
  have := h (x - ma s g c x * s)
  omega
theorem fw_bd : ∀ (a b : List Int) (y : Nat), 0 ≤ fw a b y ∧ fw a b y ≤ 1001
  | [], b, y => by
    have e : fw [] b = fun x => if x = 0 then 0 else 1001 := by cases b <;> rfl
    rw [e]; dsimp only; split <;> decide
  | _ :: _, [], y => by
    show 0 ≤ (if y = 0 then (0 : Int) else 1001) ∧ (if y = 0 then (0 : Int) else 1001) ≤ 1001
    split <;> decide
  | s :: a, c :: b, y => by
    have := mv_nonneg (s := s.toNat) (fun y => (fw_bd a b y).1) c.toNat y
    show 0 ≤ val _ _ _ y ∧ val _ _ _ y ≤ 1001
    unfold val
    split <;> omega
structure GoodM (a b : List Int) : Prop where
  len : b.length = a.length
  five : a.length ≤ 5
  sz : ∀ x ∈ a, 1 ≤ x ∧ x ≤ 30
  st : ∀ x ∈ b, 0 ≤ x ∧ x ≤ 1000
theorem Good.m {a b : List Int} (h : Good a b) : GoodM a b := ⟨h.len, h.five, h.sz, fun x hx => by have := h.st x hx; omega⟩
theorem p9_eq {F n : Nat} {a b : List Int} {g : Nat → Int} {s most : Nat} {p : Int} {C : List (List Int)} (hF : 1100 ≤ F) (hn : n ≤ 1000) (hg : ∀ y, 0 ≤ g y ∧ g y ≤ 1001) (hs : 1 ≤ s) (hs2 : s ≤ 30) (hmost : most ≤ 1000) :
    ∀ (k r : Nat) (N B : Nat → Int), r ≤ s → r ≤ n + 1 → 31 < k + r → (∀ y, y ≤ n → y % s < r → N y = val s most g y ∧ B y = (ma s g most y : Nat)) →
    f65_p9_2 F n a p most s b (tab (n + 1) g) C k r (tab (n + 1) N) (tab (n + 1) B) = some (tab (n + 1) (val s most g), tab (n + 1) (fun y => (ma s g most y : Nat))) := by
  intro k
  induction k with
  | zero => intro r N B h1 _ h; omega
  | succ k ih =>
    intro r N B h1 h2 h3 h4
    have en : w64 ((n : Int) + 1) = ((n + 1 : Nat) : Int) := w64_succ (by omega)
    unfold f65_p9_2
    rw [en]
    by_cases hr : r < s ∧ r < n + 1
    · obtain ⟨N', B', r1, r2, r3⟩ := p13_eq (F := F) (a := a) (b := b) (p := p) (C := C) (r := r) hF hn hg hs hs2 hr.1 (by omega) hmost F 0 N B [] (by omega) (by omega) (by simp) ⟨by simp, by simp, fun i hi => by omega⟩
      rw [if_pos (decide_eq_true (by split <;> omega)), show f65_p13_5 F n a p most s r b (tab (n + 1) g) C F (tab (n + 1) N) (tab (n + 1) B) 0 [] = _ from r1, Option.bind_some, w64_succ (by omega)]
      refine ih (r + 1) N' B' (by omega) (by omega) (by omega) fun y hy hyr => ?_
      by_cases he : y % s = r
      · refine r2 y he ?_ hy
        have := Nat.mod_le y s
        omega
      · have h5 := r3 y fun hh => he hh.1
        rw [h5.1, h5.2]
        exact h4 y hy (by omega)
    · rw [if_neg (by rw [decide_eq_true_eq]; split <;> omega)]
      have hall : ∀ y, y < n + 1 → N y = val s most g y ∧ B y = (ma s g most y : Nat) := fun y hy => by
        refine h4 y (by omega) ?_
        have h5 := Nat.mod_lt y hs
        have h6 := Nat.mod_le y s
        omega
      rw [tab_congr fun y hy => (hall y hy).1, tab_congr fun y hy => (hall y hy).2]
theorem p5_eq {F n : Nat} {a b : List Int} (hF : 1100 ≤ F) (hn : n ≤ 1000) (hab : GoodM a b) : ∀ (k i : Nat), i ≤ a.length → i < k →
    f65_p5 F n a b k ((i : Int) - 1) (tab (n + 1) (fw (a.drop i) (b.drop i))) (List.replicate i [] ++ byl n (a.drop i) (b.drop i)) = some (tab (n + 1) (fw a b), byl n a b) := by
  have hl := hab.len
  have h5 := hab.five
  intro k
  induction k with
  | zero => intro i _ h; omega
  | succ k ih =>
    intro i h1 h2
    unfold f65_p5
    match i, h1, h2 with
    | 0, _, _ =>
      rw [if_neg (by decide)]
      rfl
    | i + 1, h1, h2 =>
      have hia : i < a.length := by omega
      have hib : i < b.length := by omega
      have hsa := hab.sz _ (List.getElem_mem hia)
      have hsb := hab.st _ (List.getElem_mem hib)
      obtain ⟨s, es⟩ : ∃ s : Nat, a[i] = s := ⟨a[i].toNat, by omega⟩
      obtain ⟨c, ec⟩ : ∃ c : Nat, b[i] = c := ⟨b[i].toNat, by omega⟩
      have ei : (((i + 1 : Nat) : Int) - 1) = (i : Int) := by omega
      have en : w64 ((n : Int) + 1) = ((n + 1 : Nat) : Int) := w64_succ (by omega)
      rw [ei, if_pos (decide_eq_true (by omega)), at_get hia, Option.bind_some, at_get hib, Option.bind_some, en, req_pos (by omega), es, ec, Int.toNat_natCast, tab_zero]
      have e := p9_eq (F := F) (n := n) (a := a) (b := b) (p := (i : Int)) (C := List.replicate (i + 1) [] ++ byl n (a.drop (i + 1)) (b.drop (i + 1))) (s := s) (most := c) hF hn (fw_bd (a.drop (i + 1)) (b.drop (i + 1))) (by omega) (by omega) (by omega) F 0 (fun _ => 0) (fun _ => 0) (by omega) (by omega) (by omega) (fun y _ h => by omega)
      have hbl : (byl n (a.drop (i + 1)) (b.drop (i + 1))).length + (i + 1) ≥ i + 1 := by omega
      rw [show f65_p9_2 F n a i c s b (tab (n + 1) (fw (a.drop (i + 1)) (b.drop (i + 1)))) (List.replicate (i + 1) [] ++ byl n (a.drop (i + 1)) (b.drop (i + 1))) F 0 (tab (n + 1) fun _ => 0) (tab (n + 1) fun _ => 0) = _ from e, Option.bind_some]
      dsimp only
      rw [req_pos (by rw [tab_len]; omega), req_pos (by rw [tab_len]; omega), Int.toNat_natCast, req_pos (by omega), Int.toNat_natCast, req_pos (by simp; omega), take_tab, take_tab, show w64 ((i : Int) - 1) = (i : Int) - 1 from w64_in (by omega)]
      have e2 : (List.replicate (i + 1) ([] : List Int) ++ byl n (a.drop (i + 1)) (b.drop (i + 1))).set (0 + i) (tab (n + 1) fun y => (ma s (fw (a.drop (i + 1)) (b.drop (i + 1))) c y : Nat)) = List.replicate i [] ++ byl n (a.drop i) (b.drop i) := by
        rw [drop_cons hia, drop_cons hib, es, ec, byl, Nat.zero_add, List.replicate_succ', List.append_assoc, List.set_append_right _ _ (by simp), List.length_replicate, Nat.sub_self]
        rfl
      have e3 : fw (a.drop i) (b.drop i) = val s c (fw (a.drop (i + 1)) (b.drop (i + 1))) := by
        rw [drop_cons hia, drop_cons hib, es, ec]; rfl
      rw [e2, ← e3]
      exact ih i (by omega) (by omega)
theorem byl_get {n : Nat} : ∀ (a b : List Int) (i : Nat) (ha : i < a.length) (hb : i < b.length), (byl n a b)[i]? = some (tab (n + 1) (fun y => (ma a[i].toNat (fw (a.drop (i + 1)) (b.drop (i + 1))) b[i].toNat y : Nat)))
  | [], b, i, h, _ => by simp at h
  | _ :: _, [], i, _, h => by simp at h
  | s :: a, c :: b, 0, _, _ => rfl
  | s :: a, c :: b, i + 1, ha, hb => by
    show (byl n a b)[i]? = _
    rw [byl_get a b i (by simpa using ha) (by simpa using hb)]
    rfl
theorem p23_eq {F n : Nat} {a b : List Int} (hn : n ≤ 1000) (hab : GoodM a b) : ∀ (k i m : Nat) (acc : List Int), i ≤ a.length → a.length < k + i → m ≤ n → acc.length ≤ i →
    f65_p23 F a b (byl n a b) k m i acc = some (acc ++ fillL (a.drop i) (b.drop i) m) := by
  have hl := hab.len
  have h5 := hab.five
  intro k
  induction k with
  | zero => intro i m acc _ h; omega
  | succ k ih =>
    intro i m acc h1 h2 h3 h4
    unfold f65_p23
    rw [Int.toNat_natCast]
    by_cases hi : i < a.length
    · have hib : i < b.length := by omega
      have hsa := hab.sz _ (List.getElem_mem hi)
      obtain ⟨s, es⟩ : ∃ s : Nat, a[i] = s := ⟨a[i].toNat, by omega⟩
      obtain ⟨c, ec⟩ : ∃ c : Nat, b[i] = c := ⟨b[i].toNat, by have := hab.st _ (List.getElem_mem hib); omega⟩
      have hfit := (ma_fst (s := s) (g := fw (a.drop (i + 1)) (b.drop (i + 1))) m c).1.fit
      have e := byl_get (n := n) a b i hi hib
      rw [es, ec, Int.toNat_natCast, Int.toNat_natCast] at e
      rw [if_pos (by simp; omega), req_pos (by omega), Int.toNat_natCast, Nat.zero_add, e, Option.bind_some, tab_at _ (by omega), Option.bind_some, req_pos (by simp; omega), at_get hi, Option.bind_some, es, w64_succ (by omega), drop_cons hi, drop_cons hib, es, ec, fillL, Int.toNat_natCast, Int.toNat_natCast]
      generalize ma s (fw (a.drop (i + 1)) (b.drop (i + 1))) c m = q at *
      have eq : (q : Int) * s = ((q * s : Nat) : Int) := (Int.natCast_mul ..).symm
      rw [eq, w64_in (n := ((q * s : Nat) : Int)) (by omega), show w64 ((m : Int) - ((q * s : Nat) : Int)) = ((m - q * s : Nat) : Int) by rw [w64_in (by omega)]; omega, ih (i + 1) (m - q * s) _ (by omega) (by omega) (by omega) (by simp; omega)]
      simp
    · rw [if_neg (by simp; omega), List.drop_eq_nil_of_le (by omega)]
      simp [fillL]
theorem p1_eq {F n : Nat} {a b : List Int} (hn : n ≤ 1000) : ∀ (k x : Nat) (h : Nat → Int), x ≤ n + 1 → n + 1 < k + x → (∀ y, y < x → h y = 1001) → f65_p1 F n a b k x (tab (n + 1) h) = some (tab (n + 1) fun _ => 1001) := by
  intro k
  induction k with
  | zero => intro x h _ h1; omega
  | succ k ih =>
    intro x h h1 h2 h3
    have en : w64 ((n : Int) + 1) = ((n + 1 : Nat) : Int) := w64_succ (by omega)
    unfold f65_p1
    rw [en, Int.toNat_natCast]
    by_cases hx : x < n + 1
    · rw [if_pos (by simp; omega), req_pos (by omega), Int.toNat_natCast, Nat.zero_add, req_pos (by rw [tab_len]; omega), tab_set, w64_succ (by omega)]
      refine ih (x + 1) _ (by omega) (by omega) fun y hy => ?_
      by_cases he : y = x
      · rw [if_pos he]
      · rw [if_neg he]; exact h3 y (by omega)
    · rw [if_neg (by simp; omega)]
      exact congrArg some (tab_congr fun y hy => h3 y (by omega))
/-- What fill answers. -/
def fillR (a b : List Int) (n : Nat) : List Int × Int := if fw a b n = 1001 then ([], 12) else (fillL a b n, 0)
theorem f65_eq {F n : Nat} (hF : 1100 ≤ F) (hn : n ≤ 1000) {a b : List Int} (hab : GoodM a b) : f65 F a b n = some (fillR a b n) := by
  have hl := hab.len
  have h5 := hab.five
  have en : w64 ((n : Int) + 1) = ((n + 1 : Nat) : Int) := w64_succ (by omega)
  have e1 := p1_eq (F := F) (a := a) (b := b) hn F 0 (fun _ => 0) (by omega) (by omega) (fun y h => by omega)
  have e2 := p5_eq hF hn hab F a.length (Nat.le_refl _) (by omega)
  have ed1 : a.drop a.length = [] := List.drop_eq_nil_of_le (Nat.le_refl _)
  have ed2 : b.drop a.length = [] := List.drop_eq_nil_of_le (by omega)
  rw [ed1, ed2] at e2
  have e3 : (tab (n + 1) fun _ => 1001).set 0 0 = tab (n + 1) (fw [] []) := by
    rw [tab_set]; rfl
  have e4 : List.replicate a.length ([] : List Int) ++ byl n [] [] = List.replicate a.length [] := by
    show _ ++ [] = _
    rw [List.append_nil]
  rw [e4] at e2
  have e5 := p23_eq (F := F) hn hab F 0 n [] (by omega) (by omega) (Nat.le_refl _) (by simp)
  rw [List.drop_zero, List.drop_zero, List.nil_append] at e5
  unfold f65
  rw [en, req_pos (by omega), Int.toNat_natCast, tab_zero, show f65_p1 F n a b F 0 (tab (n + 1) fun _ => 0) = _ from e1, Option.bind_some, req_pos (by omega), req_pos (by rw [tab_len]; omega), req_pos (by omega), e3, req_pos (by rw [tab_len]; omega), take_tab, Int.toNat_natCast, show w64 ((a.length : Int) - 1) = (a.length : Int) - 1 from w64_in (by omega), e2, Option.bind_some]
  dsimp only
  rw [tab_at _ (by omega), Option.bind_some]
  unfold fillR
  by_cases h : fw a b n = 1001
  · rw [if_pos (by simpa using h), if_pos h]
  · rw [if_neg (by simpa using h), if_neg h, show f65_p23 F a b (byl n a b) F n 0 [] = _ from e5, Option.bind_some, take0]
theorem f51_eq {F : Nat} (hF : 1100 ≤ F) {a b : List Int} {n : Int} (hb : b.length ≤ 40) : f51 F a b n = some (if od a b n = 0 then fillR a b n.toNat else ([], od a b n)) := by
  unfold f51
  rw [f73_eq (by omega) hb, Option.bind_some]
  by_cases h : od a b n = 0
  · obtain ⟨h1, h2, h3⟩ := od_zero h
    obtain ⟨m, rfl⟩ : ∃ m : Nat, n = m := ⟨n.toNat, by omega⟩
    rw [if_pos h]
    simp only [if_pos h1, h, bne_self_eq_false, Bool.false_eq_true, if_false]
    rw [f65_eq hF (by omega) (Good.of h1).m, Int.toNat_natCast]
    rfl
  · rw [if_neg h]
    by_cases hs : stk a b = 0 <;> simp [hs, h]
/-- A filling of n. -/
def IsF : List Int → List Int → List Int → Nat → Prop
  | s :: a, c :: b, x :: l, n => 0 ≤ x ∧ x ≤ c ∧ x.toNat * s.toNat ≤ n ∧ IsF a b l (n - x.toNat * s.toNat)
  | [], [], [], n => n = 0
  | _, _, _, _ => False
def pk : List Int → Int
  | [] => 0
  | x :: l => x + pk l
theorem opt1 : ∀ (a b l : List Int) (n : Nat), IsF a b l n → fw a b n ≤ pk l
  | s :: a, c :: b, x :: l, n, h => by
    obtain ⟨h1, h2, h3, h4⟩ := h
    have ih := opt1 a b l _ h4
    obtain ⟨k, e⟩ := ma_fst (s := s.toNat) (g := fw a b) n c.toNat
    have := k.best x.toNat (by omega) h3
    show val _ _ _ n ≤ x + pk l
    unfold val
    split <;> omega
  | [], [], [], n, h => by
    have : n = 0 := h
    subst this
    decide
  | [], [], _ :: _, _, h => h.elim
  | [], _ :: _, _, _, h => h.elim
  | _ :: _, [], _, _, h => h.elim
  | _ :: _, _ :: _, [], _, h => h.elim
theorem opt2 : ∀ (a b : List Int) (n : Nat), a.length = b.length → (∀ x ∈ b, 0 ≤ x) → fw a b n < 1001 → IsF a b (fillL a b n) n ∧ pk (fillL a b n) = fw a b n
  | s :: a, c :: b, n, hl, hb, h => by
    have h : val s.toNat c.toNat (fw a b) n < 1001 := h
    have hc := hb c (by simp)
    obtain ⟨k, e⟩ := ma_fst (s := s.toNat) (g := fw a b) n c.toNat
    have hv : val s.toNat c.toNat (fw a b) n = mv s.toNat (fw a b) c.toNat n := by
      unfold val at h ⊢
      split at h
      · rename_i h2; rw [if_pos h2]
      · omega
    have hle := k.le
    obtain ⟨i1, i2⟩ := opt2 a b (n - ma s.toNat (fw a b) c.toNat n * s.toNat) (by simpa using hl) (fun x hx => hb x (by simp [hx])) (by omega)
    show (0 ≤ ((ma s.toNat (fw a b) c.toNat n : Nat) : Int) ∧ _ ∧ _ ∧ _) ∧ _ + pk _ = val _ _ _ n
    rw [Int.toNat_natCast, i2, hv, e]
    exact ⟨⟨by omega, by omega, k.fit, i1⟩, by omega⟩
  | [], [], n, _, _, h => by
    have h : (if n = 0 then (0 : Int) else 1001) < 1001 := h
    by_cases h0 : n = 0
    · subst h0; exact ⟨rfl, rfl⟩
    · rw [if_neg h0] at h; omega
  | [], _ :: _, _, hl, _, _ => by simp at hl
  | _ :: _, [], _, hl, _, _ => by simp at hl
theorem pk_le : ∀ (a b l : List Int) (n : Nat), (∀ x ∈ a, 1 ≤ x) → IsF a b l n → pk l ≤ n
  | s :: a, c :: b, x :: l, n, ha, h => by
    obtain ⟨h1, h2, h3, h4⟩ := h
    have ih := pk_le a b l _ (fun y hy => ha y (by simp [hy])) h4
    have hs := ha s (by simp)
    have : x.toNat * 1 ≤ x.toNat * s.toNat := Nat.mul_le_mul_left _ (by omega)
    show x + pk l ≤ n
    omega
  | [], [], [], n, _, h => by
    show (0 : Int) ≤ n
    omega
  | [], [], _ :: _, _, _, h => h.elim
  | [], _ :: _, _, _, _, h => h.elim
  | _ :: _, [], _, _, _, h => h.elim
  | _ :: _, _ :: _, [], _, _, h => h.elim
end
section
def wsm : List Int → List Int → Int
  | s :: a, x :: l => x * s + wsm a l
  | _, _ => 0
/-- Each number is in the stock. -/
def InP : List Int → List Int → Prop
  | c :: b, x :: l => (0 ≤ x ∧ x ≤ c) ∧ InP b l
  | _, [] => True
  | [], _ :: _ => False
def en : List Int → List (List Int)
  | [] => [[]]
  | c :: b => (List.range (c.toNat + 1)).flatMap fun (x : Nat) => (en b).map fun l => (x : Int) :: l
theorem wsm_snoc : ∀ (a pre : List Int) (c : Int) (h : pre.length < a.length), wsm a (pre ++ [c]) = wsm a pre + c * a[pre.length]
  | [], pre, c, h => by simp at h
  | s :: a, [], c, h => by simp [wsm]
  | s :: a, x :: pre, c, h => by
    have := wsm_snoc a pre c (by simpa using h)
    simp only [List.cons_append, wsm, List.length_cons, List.getElem_cons_succ, this]
    omega
theorem InP_snoc : ∀ (b pre : List Int) (c : Int) (h : pre.length < b.length), InP b pre → 0 ≤ c ∧ c ≤ b[pre.length] → InP b (pre ++ [c])
  | [], pre, c, h, _, _ => by simp at h
  | s :: b, [], c, h, _, hc => ⟨hc, by cases b <;> trivial⟩
  | s :: b, x :: pre, c, h, hp, hc => ⟨hp.1, InP_snoc b pre c (by simpa using h) hp.2 hc⟩
theorem pk_snoc : ∀ (pre : List Int) (c : Int), pk (pre ++ [c]) = pk pre + c
  | [], c => by simp [pk]
  | x :: pre, c => by
    have := pk_snoc pre c
    simp only [List.cons_append, pk, this]; omega
theorem InP_bd : ∀ (a b pre : List Int), (∀ x ∈ a, 1 ≤ x ∧ x ≤ 30) → (∀ x ∈ b, 0 ≤ x ∧ x ≤ 40) → InP b pre → 0 ≤ wsm a pre ∧ wsm a pre ≤ 1200 * pre.length ∧ 0 ≤ pk pre ∧ pk pre ≤ 40 * pre.length
  | a, b, [], _, _, _ => by cases a <;> simp [wsm, pk]
  | a, [], _ :: _, _, _, h => h.elim
  | [], c :: b, x :: pre, ha, hb, h => by
    have ih := InP_bd [] b pre ha (fun y hy => hb y (by simp [hy])) h.2
    have := hb c (by simp)
    have := h.1
    simp only [wsm, pk, List.length_cons]; omega
  | s :: a, c :: b, x :: pre, ha, hb, h => by
    have ih := InP_bd a b pre (fun y hy => ha y (by simp [hy])) (fun y hy => hb y (by simp [hy])) h.2
    have hs := ha s (by simp)
    have hc := hb c (by simp)
    have hx := h.1
    have h1 : x * s ≤ 40 * 30 := Int.mul_le_mul (by omega) hs.2 (by omega) (by omega)
    have h2 : 0 ≤ x * s := Int.mul_nonneg hx.1 (by omega)
    simp only [wsm, pk, List.length_cons]; omega
theorem en_mem : ∀ (b l : List Int), (∀ x ∈ b, 0 ≤ x) → (l ∈ en b ↔ InP b l ∧ l.length = b.length)
  | [], l, _ => by
    cases l <;> simp [en, InP]
  | c :: b, l, hb => by
    have hc := hb c (by simp)
    rw [en, List.mem_flatMap]
    constructor
    · rintro ⟨x, hx, h⟩
      obtain ⟨t, ht, rfl⟩ := List.mem_map.1 h
      have hx := List.mem_range.1 hx
      have := (en_mem b t fun y hy => hb y (by simp [hy])).1 ht
      exact ⟨⟨⟨by omega, by omega⟩, this.1⟩, by simp [this.2]⟩
    · rintro ⟨h1, h2⟩
      cases l with
      | nil => simp at h2
      | cons x t =>
        obtain ⟨⟨h3, h4⟩, h5⟩ := h1
        refine ⟨x.toNat, List.mem_range.2 (by omega), List.mem_map.2 ⟨t, (en_mem b t fun y hy => hb y (by simp [hy])).2 ⟨h5, by simpa using h2⟩, by rw [Int.toNat_of_nonneg h3]⟩⟩
theorem en_len : ∀ (a b : List Int), a.length = b.length → (((en b).length : Nat) : Int) = cntT a b
  | [], [], _ => rfl
  | [], _ :: _, h => by simp at h
  | _ :: _, [], h => by simp at h
  | s :: a, c :: b, h => by
    have ih := en_len a b (by simpa using h)
    have key : ∀ k : Nat, ((((List.range k).flatMap fun (x : Nat) => (en b).map fun l => (x : Int) :: l).length : Nat) : Int) = k * cntT a b := by
      intro k
      induction k with
      | zero => simp
      | succ k ihk =>
        rw [List.range_succ, List.flatMap_append, List.length_append, Int.natCast_add, ihk]
        simp only [List.flatMap_cons, List.flatMap_nil, List.append_nil, List.length_map, ih]
        rw [Int.natCast_add, Int.add_mul]; simp
    exact key (c.toNat + 1)
theorem f57_p4_eq {F : Nat} {a b l : List Int} (hl : l.length = a.length) (hb : b.length = a.length) (h5 : a.length ≤ 5) (ha : ∀ x ∈ a, 1 ≤ x ∧ x ≤ 30) (hst : ∀ x ∈ b, 0 ≤ x ∧ x ≤ 40) (hin : ∀ i (h : i < l.length) (h2 : i < b.length), 0 ≤ l[i] ∧ l[i] ≤ b[i]) :
    ∀ (k i : Nat) (m : Int), i ≤ l.length → l.length < k + i → m ≤ 1000 → -1200 * i ≤ m → f57_p4 F l a b k m i = some (.c1 (m - wsm (a.drop i) (l.drop i))) := by
  intro k
  induction k with
  | zero => intro i m _ h; omega
  | succ k ih =>
    intro i m h1 h2 h3 h4
    unfold f57_p4
    by_cases hi : i < l.length
    · have hia : i < a.length := by omega
      have hib : i < b.length := by omega
      have hs := ha _ (List.getElem_mem hia)
      have hc := hst _ (List.getElem_mem hib)
      have hx := hin i hi hib
      have q1 : l[i] * a[i] ≤ 40 * 30 := Int.mul_le_mul (by omega) hs.2 (by omega) (by omega)
      have q2 : 0 ≤ l[i] * a[i] := Int.mul_nonneg hx.1 (by omega)
      rw [if_pos (by simp; omega), at_get hi, Option.bind_some, at_get hib, Option.bind_some, f67_eq, Option.bind_some, if_pos (decide_eq_true hx), at_get hia, Option.bind_some, w64_in (n := l[i] * a[i]) (by omega), w64_in (n := m - l[i] * a[i]) (by omega), w64_succ (by omega), ih (i + 1) _ (by omega) (by omega) (by omega) (by omega), drop_cons hi, drop_cons hia, wsm]
      congr 2; omega
    · rw [if_neg (by simp; omega), List.drop_eq_nil_of_le (by omega), List.drop_eq_nil_of_le (by omega)]
      simp [wsm]
theorem InP_get : ∀ (b l : List Int), InP b l → ∀ i (h : i < l.length) (h2 : i < b.length), 0 ≤ l[i] ∧ l[i] ≤ b[i]
  | _, [], _, i, h, _ => by simp at h
  | [], _ :: _, h, _, _, _ => h.elim
  | c :: b, x :: l, h, 0, _, _ => h.1
  | c :: b, x :: l, h, i + 1, h1, h2 => InP_get b l h.2 i (by simpa using h1) (by simpa using h2)
theorem f57_eq {F : Nat} (hF : 100 ≤ F) {a b l : List Int} {n : Nat} (hst : stk a b = 0) (hn : n ≤ 1000) (hl : l.length = a.length) (hin : InP b l) : f57 F a b n l = some (if wsm a l = n then 0 else 17) := by
  have hab := Good.of hst
  have hlb := hab.len
  have h5 := hab.five
  have ho : od a b n = 0 := by unfold od; rw [if_pos hst, if_pos (by omega)]
  have e := f57_p4_eq (F := F) hl hlb h5 hab.sz hab.st (InP_get b l hin) F 0 n (by omega) (by omega) (by omega) (by omega)
  rw [List.drop_zero, List.drop_zero] at e
  unfold f57
  rw [f73_eq (by omega) (by omega), Option.bind_some, if_pos hst, ho]
  dsimp only
  rw [if_neg (by decide), if_neg (by simp [hl]), show f57_p4 F l a b F n 0 = _ from e, Option.bind_some]
  dsimp only
  by_cases h : wsm a l = n
  · rw [if_pos h, if_neg (by simp; omega)]
  · rw [if_neg h, if_pos (by simp; omega)]
structure St where
  best : List Int
  few : Int
  cnt : Int
  lo : List Int
  hi : List Int
def lows (cnt : Int) : List Int → List Int → List Int
  | c :: l, x :: r => (if cnt = 0 then c else if c < x then c else x) :: lows cnt l r
  | _, _ => []
def higs (cnt : Int) : List Int → List Int → List Int
  | c :: l, x :: r => (if cnt = 0 then c else if c > x then c else x) :: higs cnt l r
  | _, _ => []
theorem lows_len (cnt : Int) : ∀ l r : List Int, l.length = r.length → (lows cnt l r).length = l.length
  | [], r, _ => by cases r <;> simp [lows]
  | _ :: _, [], h => by simp at h
  | c :: l, x :: r, h => by simp [lows, lows_len cnt l r (by simpa using h)]
theorem higs_len (cnt : Int) : ∀ l r : List Int, l.length = r.length → (higs cnt l r).length = l.length
  | [], r, _ => by cases r <;> simp [higs]
  | _ :: _, [], h => by simp at h
  | c :: l, x :: r, h => by simp [higs, higs_len cnt l r (by simpa using h)]
def step (a : List Int) (n : Int) (σ : St) (l : List Int) : St :=
  if wsm a l = n then ⟨if pk l < σ.few then l else σ.best, if pk l < σ.few then pk l else σ.few, σ.cnt + 1, lows σ.cnt l σ.lo, higs σ.cnt l σ.hi⟩ else σ
theorem f59_p2_eq {F : Nat} {p1 p2 p3 : Int} {a b best l : List Int} {few cnt : Int} {len : Nat} (hl : l.length = len) (h5 : len ≤ 5) : ∀ (k i : Nat) (pl rl pm rm : List Int), i ≤ len → len < k + i → pl.length = i → pm.length = i → rl.length + i = len → rm.length + i = len →
    f59_1_p2 F 0 len p1 a b p2 best few cnt 0 len 0 len p3 l k i (pl ++ rl) (pm ++ rm) = some (pl ++ lows cnt (l.drop i) rl, pm ++ higs cnt (l.drop i) rm) := by
  intro k
  induction k with
  | zero => intro i _ _ _ _ _ h; omega
  | succ k ih =>
    intro i pl rl pm rm h1 h2 h3 h4 h6 h7
    unfold f59_1_p2
    by_cases hi : i < len
    · have hi2 : i < l.length := by omega
      cases rl with
      | nil => simp at h6; omega
      | cons x rl =>
        cases rm with
        | nil => simp at h7; omega
        | cons y rm =>
          simp only [List.length_cons] at h6 h7
          have g1 : ∀ v : Int, (pl ++ v :: rl)[i]? = some v := fun v => by rw [List.getElem?_append_right (by omega), h3, Nat.sub_self]; rfl
          have g2 : ∀ v : Int, (pm ++ v :: rm)[i]? = some v := fun v => by rw [List.getElem?_append_right (by omega), h4, Nat.sub_self]; rfl
          have s1 : ∀ v w : Int, (pl ++ v :: rl).set i w = pl ++ w :: rl := fun v w => by rw [List.set_append_right _ _ (by omega), h3, Nat.sub_self]; rfl
          have s2 : ∀ v w : Int, (pm ++ v :: rm).set i w = pm ++ w :: rm := fun v w => by rw [List.set_append_right _ _ (by omega), h4, Nat.sub_self]; rfl
          have len1 : ∀ v : Int, i < (pl ++ v :: rl).length := fun v => by simp; omega
          have len2 : ∀ v : Int, i < (pm ++ v :: rm).length := fun v => by simp; omega
          rw [if_pos (by simp; omega), req_pos (by omega), Int.toNat_natCast, Nat.zero_add, List.getElem?_eq_getElem hi2, Option.bind_some, w64_succ (by omega), drop_cons hi2, lows, higs]
          unfold f59_1_p5_1
          by_cases hc : cnt = 0
          · rw [if_pos (by simpa using hc), Int.toNat_natCast, Nat.zero_add, req_pos (by omega), req_pos (len1 x), req_pos (by omega), req_pos (len2 y), s1, s2, Option.bind_some]
            dsimp only
            rw [req_pos (by omega), g1, Option.bind_some, req_pos (by omega), g2, Option.bind_some, req_pos (len1 _), req_pos (len2 _), s1, s2, if_neg (Int.lt_irrefl _), if_pos hc, if_pos hc]
            have := ih (i + 1) (pl ++ [l[i]]) rl (pm ++ [l[i]]) rm (by omega) (by omega) (by simp; omega) (by simp; omega) (by omega) (by omega)
            simpa using this
          · rw [if_neg (by simpa using hc), Option.bind_some]
            dsimp only
            rw [req_pos (by omega), g1, Option.bind_some, req_pos (by omega), g2, Option.bind_some, req_pos (len1 _), req_pos (len2 _), s1, s2, if_neg hc, if_neg hc]
            have := ih (i + 1) (pl ++ [if l[i] < x then l[i] else x]) rl (pm ++ [if l[i] > y then l[i] else y]) rm (by omega) (by omega) (by simp; omega) (by simp; omega) (by omega) (by omega)
            simpa using this
    · have e1 : rl = [] := List.eq_nil_of_length_eq_zero (by omega)
      have e2 : rm = [] := List.eq_nil_of_length_eq_zero (by omega)
      subst e1; subst e2
      rw [if_neg (by simp; omega), List.drop_eq_nil_of_le (by omega)]
      simp [lows, higs]
theorem f47_3m_eq {F : Nat} {l : List Int} (hl : l.length ≤ 5000) : f47_3m F l = some l := by
  unfold f47_3m
  cases l with
  | nil => rfl
  | cons x r =>
    simp only [nilm, f47_3, Option.isNone_some, Option.getD_some]
    rw [if_neg (by decide), req_pos (by simp at hl ⊢; omega)]
    simp
theorem f59_1_eq {F : Nat} (hF : 1100 ≤ F) {a b l : List Int} {n : Nat} (hst : stk a b = 0) (hn : n ≤ 1000) (hl : l.length = a.length) (hin : InP b l) {σ : St} (hlo : σ.lo.length = a.length) (hhi : σ.hi.length = a.length) (hcnt : 0 ≤ σ.cnt ∧ σ.cnt ≤ 100000) :
    f59_1 F 0 a.length (wsm a l) (pk l) a b n σ.best σ.few σ.cnt σ.lo σ.hi 0 a.length 0 a.length true l = some ((step a n σ l).best, (step a n σ l).few, (step a n σ l).cnt, (step a n σ l).lo, (step a n σ l).hi, true) := by
  have h5 := (Good.of hst).five
  have et : List.drop 0 (List.take (0 + a.length) l) = l := by rw [← hl]; exact take0 l
  have e := fun p3 => f59_p2_eq (F := F) (p1 := pk l) (p2 := (n : Int)) (p3 := p3) (a := a) (b := b) (best := σ.best) (few := σ.few) (cnt := σ.cnt) hl h5 F 0 [] σ.lo [] σ.hi (by omega) (by omega) rfl rfl (by omega) (by omega)
  simp only [List.nil_append, List.drop_zero] at e
  unfold f59_1 step
  rw [et, f57_eq (by omega) hst hn hl hin, Option.bind_some, req_pos (by omega)]
  by_cases h : wsm a l = n
  · rw [if_pos h, if_pos h, if_neg (by simp [h]), if_pos rfl, show f59_1_p2 F 0 a.length (pk l) a b n σ.best σ.few σ.cnt 0 a.length 0 a.length 0 l F 0 σ.lo σ.hi = _ from e 0, Option.bind_some]
    dsimp only
    unfold f59_1_p6
    rw [et, w64_in (n := σ.cnt + 1) (by omega)]
    by_cases hp : pk l < σ.few
    · rw [if_pos (by simpa using hp), f47_3m_eq (by omega), Option.bind_some, req_pos (by omega), Option.bind_some]
      dsimp only
      rw [take0, if_pos hp, if_pos hp]
      rfl
    · rw [if_neg (by simpa using hp), Option.bind_some]
      dsimp only
      rw [if_neg hp, if_neg hp]
      rfl
  · rw [if_neg h, if_neg h, if_pos (by simpa using h), if_pos rfl]
    rfl
/-- What is kept has a length. -/
structure Ok (len : Nat) (σ : St) : Prop where
  lo : σ.lo.length = len
  hi : σ.hi.length = len
  cnt : 0 ≤ σ.cnt
theorem Ok.step {len : Nat} {σ : St} (h : Ok len σ) {a : List Int} {n : Int} {l : List Int} (hl : l.length = len) : Ok len (Pack.step a n σ l) := by
  unfold Pack.step
  split
  · exact ⟨by rw [lows_len _ _ _ (by rw [hl, h.lo]), hl], by rw [higs_len _ _ _ (by rw [hl, h.hi]), hl], by have := h.cnt; show 0 ≤ σ.cnt + 1; omega⟩
  · exact h
theorem Ok.fold {len : Nat} {a : List Int} {n : Int} : ∀ (L : List (List Int)) (σ : St), Ok len σ → (∀ l ∈ L, l.length = len) → Ok len (L.foldl (Pack.step a n) σ) ∧ (L.foldl (Pack.step a n) σ).cnt ≤ σ.cnt + L.length
  | [], σ, h, _ => ⟨h, by simp⟩
  | l :: L, σ, h, hL => by
    obtain ⟨h1, h2⟩ := Ok.fold L (Pack.step a n σ l) (h.step (hL l (by simp))) fun x hx => hL x (by simp [hx])
    refine ⟨h1, Int.le_trans h2 ?_⟩
    have : (Pack.step a n σ l).cnt ≤ σ.cnt + 1 := by
      unfold Pack.step
      split
      · exact Int.le_refl _
      · omega
    rw [List.length_cons]; omega
theorem f81_2_eq {F : Nat} (hF : 1100 ≤ F) {a b : List Int} {n : Nat} (hst : stk a b = 0) (hn : n ≤ 1000) : ∀ (k : Nat) (pre rest : List Int) (σ : St), pre.length ≤ a.length → a.length < k + pre.length → rest.length + pre.length = a.length → InP b pre → Ok a.length σ → σ.cnt + (en (b.drop pre.length)).length ≤ 100000 →
    ∃ τ : St, ∃ rest', τ = ((en (b.drop pre.length)).map (pre ++ ·)).foldl (step a n) σ ∧ rest'.length = rest.length ∧
      f81_2 F k (pre.length : Nat) (wsm a pre) (pk pre) a b n σ.best σ.few σ.cnt σ.lo σ.hi 0 a.length 0 a.length true a b (pre ++ rest) 0 a.length = some (τ.best, τ.few, τ.cnt, τ.lo, τ.hi, true, pre ++ rest') := by
  have hab := Good.of hst
  have h5 := hab.five
  have hlb := hab.len
  intro k
  induction k with
  | zero => intro pre rest σ _ h; omega
  | succ k ih =>
    intro pre rest σ h1 h2 h3 hin hok hc
    show ∃ τ : St, ∃ rest', _ ∧ _ ∧ f81_2_b F (f81_2 F k) _ _ _ _ _ _ _ _ _ _ _ _ _ _ _ _ _ _ _ _ _ = _
    unfold f81_2_b
    by_cases hi : pre.length = a.length
    · have er : rest = [] := List.eq_nil_of_length_eq_zero (by omega)
      subst er
      have eb : b.drop pre.length = [] := List.drop_eq_nil_of_le (by omega)
      rw [eb] at hc ⊢
      have hc : σ.cnt + ((1 : Nat) : Int) ≤ 100000 := hc
      refine ⟨step a n σ pre, [], by simp [en], rfl, ?_⟩
      rw [if_pos (by simp [hi]), List.append_nil, f59_1_eq hF hst hn hi hin hok.lo hok.hi ⟨hok.cnt, by omega⟩, Option.bind_some]
    · have hia : pre.length < a.length := by omega
      have hib : pre.length < b.length := by omega
      have hsa := hab.sz _ (List.getElem_mem hia)
      have hsb := hab.st _ (List.getElem_mem hib)
      obtain ⟨s, es⟩ : ∃ s : Nat, a[pre.length] = s := ⟨a[pre.length].toNat, by omega⟩
      obtain ⟨c, ec⟩ : ∃ c : Nat, b[pre.length] = c := ⟨b[pre.length].toNat, by omega⟩
      have hbd := InP_bd a b pre hab.sz hab.st hin
      have hat : at? a (pre.length : Int) = some (s : Int) := at_of (by rw [List.getElem?_eq_getElem hia, es])
      have hbt : at? b (pre.length : Int) = some (c : Int) := at_of (by rw [List.getElem?_eq_getElem hib, ec])
      have hen : ∀ l ∈ en (b.drop (pre.length + 1)), l.length + (pre.length + 1) = a.length := fun l hl => by
        have := (en_mem _ l fun x hx => (hab.st x (List.mem_of_mem_drop hx)).1).1 hl
        rw [this.2, List.length_drop]; omega
      rw [drop_cons hib, ec] at hc ⊢
      have ih := fun pre' rest' σ' h => ih pre' rest' σ' h
      generalize hB : b.drop (pre.length + 1) = B at *
      rw [if_neg (by simp; omega)]
      let E : Nat → St := fun j => ((((List.range j).flatMap fun (x : Nat) => (en B).map fun l => (x : Int) :: l)).map (pre ++ ·)).foldl (step a n) σ
      have E1 : ∀ j, E (j + 1) = ((en B).map ((pre ++ [(j : Int)]) ++ ·)).foldl (step a n) (E j) := fun j => by
        show (List.map _ _).foldl _ _ = _
        rw [List.range_succ, List.flatMap_append, List.map_append, List.foldl_append]
        simp only [List.flatMap_cons, List.flatMap_nil, List.append_nil, List.map_map]
        congr 1
        refine List.map_congr_left fun l _ => ?_
        simp
      have hElen : ∀ j, (((List.range j).flatMap fun (x : Nat) => (en B).map fun l => (x : Int) :: l).length) = j * (en B).length := fun j => by
        induction j with
        | zero => simp
        | succ j ihj =>
          rw [List.range_succ, List.flatMap_append, List.length_append, ihj]
          simp only [List.flatMap_cons, List.flatMap_nil, List.append_nil, List.length_map]
          rw [Nat.add_mul, Nat.one_mul]
      have hEok : ∀ j, Ok a.length (E j) ∧ (E j).cnt ≤ σ.cnt + ((j * (en B).length : Nat) : Int) := fun j => by
        have := Ok.fold (a := a) (n := n) ((((List.range j).flatMap fun (x : Nat) => (en B).map fun l => (x : Int) :: l)).map (pre ++ ·)) σ hok fun l hl => by
          obtain ⟨t, ht, rfl⟩ := List.mem_map.1 hl
          obtain ⟨x, _, ht⟩ := List.mem_flatMap.1 ht
          obtain ⟨u, hu, rfl⟩ := List.mem_map.1 ht
          have := hen u hu
          simp; omega
        rw [List.length_map, hElen] at this
        exact this
      have hcl : (en ((c : Int) :: B)).length = (c + 1) * (en B).length := by
        show ((List.range ((c : Int).toNat + 1)).flatMap _).length = _
        rw [Int.toNat_natCast]; exact hElen (c + 1)
      rw [hcl] at hc
      have loop : ∀ (kk j : Nat) (rest : List Int), j ≤ c + 1 → c + 1 < kk + j → rest.length + pre.length = a.length → ∃ rest', rest'.length + pre.length = a.length ∧
          f81_2_p2 F (f81_2 F k) (pre.length : Nat) (wsm a pre) (pk pre) a b n 0 a.length 0 a.length a b 0 a.length kk j (E j).best (E j).few (E j).cnt (E j).lo (E j).hi true (pre ++ rest)
            = some ((E (c + 1)).best, (E (c + 1)).few, (E (c + 1)).cnt, (E (c + 1)).lo, (E (c + 1)).hi, true, pre ++ rest') := by
        intro kk
        induction kk with
        | zero => intro j rest _ h; omega
        | succ kk ihk =>
          intro j rest j1 j2 j3
          unfold f81_2_p2
          rw [hbt, Option.bind_some]
          by_cases hj : j ≤ c
          · have hcs := cs_cast (c := j) (s := s) (by omega) (by omega)
            have ejs : ((j * s : Nat) : Int) = (j : Int) * s := Int.natCast_mul ..
            cases rest with
            | nil => simp at j3; omega
            | cons x rest =>
              have hset : (pre ++ x :: rest).set (0 + pre.length) (j : Int) = (pre ++ [(j : Int)]) ++ rest := by
                rw [Nat.zero_add, List.set_append_right _ _ (Nat.le_refl _), Nat.sub_self]; simp
              have hw : wsm a (pre ++ [(j : Int)]) = wsm a pre + (j : Int) * s := by rw [wsm_snoc a pre j hia, es]
              have hin' : InP b (pre ++ [(j : Int)]) := InP_snoc b pre j hib hin (by rw [ec]; omega)
              have hle : j * (en B).length + (en B).length ≤ (c + 1) * (en B).length := by
                have : (j + 1) * (en B).length ≤ (c + 1) * (en B).length := Nat.mul_le_mul_right _ (by omega)
                rwa [Nat.add_mul, Nat.one_mul] at this
              have hpl : (pre ++ [(j : Int)]).length = pre.length + 1 := by simp
              obtain ⟨τ, rest', t1, t2, t3⟩ := ih (pre ++ [(j : Int)]) rest (E j) (by omega) (by omega) (by simp at j3; omega) hin' (hEok j).1 (by
                rw [hpl, hB]
                have := (hEok j).2
                omega)
              rw [hpl, hB, ← E1] at t1
              subst t1
              rw [hpl, hw, pk_snoc] at t3
              rw [if_pos (by simp; omega), req_pos (by omega), Int.toNat_natCast, req_pos (by simp), hat, Option.bind_some, hset, w64_succ (by omega), hcs.1, ejs, w64_in (n := wsm a pre + (j : Int) * s) (by omega), w64_in (n := pk pre + (j : Int)) (by omega), t3, Option.bind_some, w64_succ (by omega)]
              dsimp only
              rw [List.append_assoc]
              exact ihk (j + 1) ([(j : Int)] ++ rest') (by omega) (by omega) (by simp at j3 ⊢; omega)
          · have : j = c + 1 := by omega
            subst this
            rw [if_neg (by rw [decide_eq_true_eq]; omega)]
            exact ⟨rest, j3, rfl⟩
      obtain ⟨rest', r1, r2⟩ := loop F 0 rest (by omega) (by omega) h3
      have hE0 : E 0 = σ := rfl
      rw [hE0] at r2
      refine ⟨E (c + 1), rest', ?_, by omega, ?_⟩
      · show _ = (List.map _ ((List.range ((c : Int).toNat + 1)).flatMap _)).foldl _ _
        rw [Int.toNat_natCast]
      · rw [show f81_2_p2 F (f81_2 F k) (pre.length : Nat) (wsm a pre) (pk pre) a b n 0 a.length 0 a.length a b 0 a.length F 0 σ.best σ.few σ.cnt σ.lo σ.hi true (pre ++ rest) = _ from r2, Option.bind_some]
end
section
/-- Comes before, number by number. -/
def lx : List Int → List Int → Prop
  | x :: l, y :: r => x < y ∨ (x = y ∧ lx l r)
  | _, _ => False
theorem en_lx : ∀ b : List Int, (en b).Pairwise lx
  | [] => List.pairwise_singleton _ _
  | c :: b => by
    have ih := en_lx b
    have key : ∀ k : Nat, ((List.range k).flatMap fun (x : Nat) => (en b).map fun l => (x : Int) :: l).Pairwise lx := by
      intro k
      induction k with
      | zero => exact List.Pairwise.nil
      | succ k ihk =>
        rw [List.range_succ, List.flatMap_append, List.pairwise_append]
        refine ⟨ihk, ?_, ?_⟩
        · simp only [List.flatMap_cons, List.flatMap_nil, List.append_nil]
          rw [List.pairwise_map]
          exact ih.imp fun h => Or.inr ⟨rfl, h⟩
        · intro p hp q hq
          obtain ⟨x, hx, hp⟩ := List.mem_flatMap.1 hp
          obtain ⟨y, hy, hq⟩ := List.mem_flatMap.1 hq
          obtain ⟨u, _, rfl⟩ := List.mem_map.1 hp
          obtain ⟨v, _, rfl⟩ := List.mem_map.1 hq
          have hx := List.mem_range.1 hx
          have hy := List.mem_singleton.1 hy
          subst hy
          exact Or.inl (by omega)
    exact key _
def nth (l : List Int) (i : Nat) : Int := l[i]?.getD 0
theorem nth_get {l : List Int} {i : Nat} (h : i < l.length) : nth l i = l[i] := by unfold nth; rw [List.getElem?_eq_getElem h]; rfl
theorem nth_lows (cnt : Int) : ∀ (l r : List Int) (i : Nat), i < l.length → i < r.length → nth (lows cnt l r) i = if cnt = 0 then nth l i else if nth l i < nth r i then nth l i else nth r i
  | [], _, _, h, _ => by simp at h
  | _ :: _, [], _, _, h => by simp at h
  | c :: l, x :: r, 0, _, _ => rfl
  | c :: l, x :: r, i + 1, h1, h2 => nth_lows cnt l r i (by simpa using h1) (by simpa using h2)
theorem nth_higs (cnt : Int) : ∀ (l r : List Int) (i : Nat), i < l.length → i < r.length → nth (higs cnt l r) i = if cnt = 0 then nth l i else if nth l i > nth r i then nth l i else nth r i
  | [], _, _, h, _ => by simp at h
  | _ :: _, [], _, _, h => by simp at h
  | c :: l, x :: r, 0, _, _ => rfl
  | c :: l, x :: r, i + 1, h1, h2 => nth_higs cnt l r i (by simpa using h1) (by simpa using h2)
def cn (a : List Int) (n : Int) (P : List (List Int)) : Nat := P.countP fun l => decide (wsm a l = n)
theorem cn_zero {a : List Int} {n : Int} {P : List (List Int)} : cn a n P = 0 ↔ ∀ l ∈ P, wsm a l ≠ n := by
  unfold cn
  rw [List.countP_eq_zero]
  simp
/-- What is kept, after the fillings P. -/
structure Inv (a : List Int) (n : Int) (P : List (List Int)) (σ : St) : Prop where
  ok : Ok a.length σ
  cnt : σ.cnt = (cn a n P : Nat)
  few : cn a n P = 0 → σ.few = 1073741824
  best : ∀ l ∈ P, wsm a l = n → σ.best ∈ P ∧ wsm a σ.best = n ∧ σ.few = pk σ.best ∧ (pk σ.best < pk l ∨ (pk σ.best = pk l ∧ (σ.best = l ∨ lx σ.best l)))
  lo : ∀ i, i < a.length → ∀ l ∈ P, wsm a l = n → (∃ u ∈ P, wsm a u = n ∧ nth u i = nth σ.lo i) ∧ nth σ.lo i ≤ nth l i
  hi : ∀ i, i < a.length → ∀ l ∈ P, wsm a l = n → (∃ u ∈ P, wsm a u = n ∧ nth u i = nth σ.hi i) ∧ nth l i ≤ nth σ.hi i
theorem Inv.step {a : List Int} {n : Int} {P : List (List Int)} {σ : St} (h : Inv a n P σ) {l : List Int} (hl : l.length = a.length) (hlx : ∀ p ∈ P, lx p l) (hp : pk l < 1073741824) : Inv a n (P ++ [l]) (Pack.step a n σ l) := by
  have hc : cn a n (P ++ [l]) = cn a n P + (if wsm a l = n then 1 else 0) := by
    unfold cn
    rw [List.countP_append, List.countP_singleton]
    by_cases h : wsm a l = n <;> simp [h]
  by_cases hw : wsm a l = n
  · rw [if_pos hw] at hc
    have hst : Pack.step a n σ l = ⟨if pk l < σ.few then l else σ.best, if pk l < σ.few then pk l else σ.few, σ.cnt + 1, lows σ.cnt l σ.lo, higs σ.cnt l σ.hi⟩ := by unfold Pack.step; rw [if_pos hw]
    have hcnt0 : σ.cnt = 0 ↔ cn a n P = 0 := by rw [h.cnt]; omega
    have old : cn a n P ≠ 0 → ∃ p ∈ P, wsm a p = n := fun h0 => by
      false_or_by_contra
      rename_i hh
      exact h0 (cn_zero.2 fun p hp hq => hh ⟨p, hp, hq⟩)
    refine ⟨h.ok.step hl, ?_, ?_, ?_, ?_, ?_⟩
    · rw [hst, hc]; show σ.cnt + 1 = _; rw [h.cnt]; omega
    · rw [hc]; omega
    · rw [hst]
      dsimp only
      have hmem : l ∈ P ++ [l] := by simp
      by_cases hlt : pk l < σ.few
      · rw [if_pos hlt, if_pos hlt]
        intro q hq hqn
        refine ⟨hmem, hw, rfl, ?_⟩
        rcases List.mem_append.1 hq with hq | hq
        · obtain ⟨_, _, b3, b4⟩ := h.best q hq hqn
          exact Or.inl (by omega)
        · rw [List.mem_singleton.1 hq]; exact Or.inr ⟨rfl, Or.inl rfl⟩
      · rw [if_neg hlt, if_neg hlt]
        have h0 : cn a n P ≠ 0 := fun h0 => by have := h.few h0; omega
        obtain ⟨p, hp1, hp2⟩ := old h0
        obtain ⟨b1, b2, b3, b4⟩ := h.best p hp1 hp2
        intro q hq hqn
        refine ⟨by simp [b1], b2, b3, ?_⟩
        rcases List.mem_append.1 hq with hq | hq
        · exact (h.best q hq hqn).2.2.2
        · rw [List.mem_singleton.1 hq]
          have hx := hlx _ b1
          by_cases he : pk σ.best < pk l
          · exact Or.inl he
          · exact Or.inr ⟨by omega, Or.inr hx⟩
    · intro i hi q hq hqn
      rw [hst]
      dsimp only
      rw [nth_lows _ _ _ _ (by omega) (by rw [h.ok.lo]; omega)]
      by_cases h0 : cn a n P = 0
      · rw [if_pos (hcnt0.2 h0)]
        have : q = l := by
          rcases List.mem_append.1 hq with hq | hq
          · exact absurd hqn (cn_zero.1 h0 q hq)
          · exact List.mem_singleton.1 hq
        subst this
        exact ⟨⟨q, hq, hw, rfl⟩, Int.le_refl _⟩
      · rw [if_neg (fun e => h0 (hcnt0.1 e))]
        obtain ⟨p, hp1, hp2⟩ := old h0
        obtain ⟨⟨u, u1, u2, u3⟩, _⟩ := h.lo i hi p hp1 hp2
        have hb : ∀ r ∈ P, wsm a r = n → nth σ.lo i ≤ nth r i := fun r hr hrn => (h.lo i hi r hr hrn).2
        by_cases hlt : nth l i < nth σ.lo i
        · rw [if_pos hlt]
          refine ⟨⟨l, by simp, hw, rfl⟩, ?_⟩
          rcases List.mem_append.1 hq with hq | hq
          · have := hb q hq hqn; omega
          · rw [List.mem_singleton.1 hq]; exact Int.le_refl _
        · rw [if_neg hlt]
          refine ⟨⟨u, by simp [u1], u2, u3⟩, ?_⟩
          rcases List.mem_append.1 hq with hq | hq
          · exact hb q hq hqn
          · rw [List.mem_singleton.1 hq]; omega
    · intro i hi q hq hqn
      rw [hst]
      dsimp only
      rw [nth_higs _ _ _ _ (by omega) (by rw [h.ok.hi]; omega)]
      by_cases h0 : cn a n P = 0
      · rw [if_pos (hcnt0.2 h0)]
        have : q = l := by
          rcases List.mem_append.1 hq with hq | hq
          · exact absurd hqn (cn_zero.1 h0 q hq)
          · exact List.mem_singleton.1 hq
        subst this
        exact ⟨⟨q, hq, hw, rfl⟩, Int.le_refl _⟩
      · rw [if_neg (fun e => h0 (hcnt0.1 e))]
        obtain ⟨p, hp1, hp2⟩ := old h0
        obtain ⟨⟨u, u1, u2, u3⟩, _⟩ := h.hi i hi p hp1 hp2
        have hb : ∀ r ∈ P, wsm a r = n → nth r i ≤ nth σ.hi i := fun r hr hrn => (h.hi i hi r hr hrn).2
        by_cases hlt : nth l i > nth σ.hi i
        · rw [if_pos hlt]
          refine ⟨⟨l, by simp, hw, rfl⟩, ?_⟩
          rcases List.mem_append.1 hq with hq | hq
          · have := hb q hq hqn; omega
          · rw [List.mem_singleton.1 hq]; exact Int.le_refl _
        · rw [if_neg hlt]
          refine ⟨⟨u, by simp [u1], u2, u3⟩, ?_⟩
          rcases List.mem_append.1 hq with hq | hq
          · exact hb q hq hqn
          · rw [List.mem_singleton.1 hq]; omega
  · rw [if_neg hw] at hc
    have hst : Pack.step a n σ l = σ := by unfold Pack.step; rw [if_neg hw]
    rw [hst]
    have hin : ∀ q ∈ P ++ [l], wsm a q = n → q ∈ P := fun q hq hqn => by
      rcases List.mem_append.1 hq with hq | hq
      · exact hq
      · rw [List.mem_singleton.1 hq] at hqn; exact absurd hqn hw
    refine ⟨h.ok, by rw [hc]; exact h.cnt, by rw [hc]; exact h.few, ?_, ?_, ?_⟩
    · intro q hq hqn
      obtain ⟨b1, b2⟩ := h.best q (hin q hq hqn) hqn
      exact ⟨by simp [b1], b2⟩
    · intro i hi q hq hqn
      obtain ⟨⟨u, u1, u2⟩, b2⟩ := h.lo i hi q (hin q hq hqn) hqn
      exact ⟨⟨u, by simp [u1], u2⟩, b2⟩
    · intro i hi q hq hqn
      obtain ⟨⟨u, u1, u2⟩, b2⟩ := h.hi i hi q (hin q hq hqn) hqn
      exact ⟨⟨u, by simp [u1], u2⟩, b2⟩
theorem Inv.fold {a : List Int} {n : Int} : ∀ (L P : List (List Int)) (σ : St), Inv a n P σ → (P ++ L).Pairwise lx → (∀ l ∈ L, l.length = a.length ∧ pk l < 1073741824) → Inv a n (P ++ L) (L.foldl (Pack.step a n) σ)
  | [], P, σ, h, _, _ => by rw [List.append_nil]; exact h
  | l :: L, P, σ, h, hp, hl => by
    have h1 := h.step (l := l) (hl l (by simp)).1 (fun p hpp => (List.pairwise_append.1 hp).2.2 p hpp l (by simp)) (hl l (by simp)).2
    have := Inv.fold L (P ++ [l]) _ h1 (by simpa using hp) fun x hx => hl x (by simp [hx])
    simpa using this
/-- How many fillings: W. -/
theorem cn_uf : ∀ (a b : List Int) (n : Int), a.length = b.length → ((cn a n (en b) : Nat) : Int) = uf a b n
  | [], [], n, _ => by
    show (([([] : List Int)].countP fun l => decide (wsm [] l = n) : Nat) : Int) = dl n
    unfold dl
    rw [List.countP_singleton]
    by_cases h : n = 0
    · subst h; rfl
    · have : ¬ (wsm [] [] = n) := fun e => h (by rw [← e]; rfl)
      simp [h, this]
  | [], _ :: _, _, h => by simp at h
  | _ :: _, [], _, h => by simp at h
  | s :: a, c :: b, n, h => by
    have ih := fun m => cn_uf a b m (by simpa using h)
    have key : ∀ k : Nat, ((cn (s :: a) n ((List.range k).flatMap fun (x : Nat) => (en b).map fun l => (x : Int) :: l) : Nat) : Int) = wi s (uf a b) k n := by
      intro k
      induction k with
      | zero => rfl
      | succ k ihk =>
        rw [wi_last, ← ihk, ← ih]
        unfold cn
        rw [List.range_succ, List.flatMap_append, List.countP_append]
        simp only [List.flatMap_cons, List.flatMap_nil, List.append_nil, List.countP_map]
        rw [Int.natCast_add]
        congr 2
        refine List.countP_congr fun l _ => ?_
        have e : wsm (s :: a) ((k : Int) :: l) = k * s + wsm a l := rfl
        simp only [Function.comp_apply, decide_eq_true_eq, e]
        constructor <;> intro hh <;> omega
    exact key _
theorem cntT_le : ∀ (a b : List Int), (∀ x ∈ b, 0 ≤ x ∧ x ≤ 6) → cntT a b ≤ 7 ^ a.length
  | [], b, _ => by cases b <;> simp [cntT]
  | _ :: a, [], _ => by
    have : (1 : Int) ≤ 7 ^ (a.length + 1) := Int.pow_pos (by decide)
    simpa [cntT] using this
  | s :: a, c :: b, h => by
    have ih := cntT_le a b fun x hx => h x (by simp [hx])
    have hc := h c (by simp)
    have h0 := cntT_pos a b
    have : ((c.toNat + 1 : Nat) : Int) * cntT a b ≤ 7 * 7 ^ a.length := Int.mul_le_mul (by omega) ih (by omega) (by omega)
    rw [cntT, List.length_cons, Int.pow_succ]
    omega
/-- Fillings, said twice. -/
theorem isF_iff : ∀ (a b l : List Int) (n : Nat), a.length = b.length → (∀ x ∈ a, 1 ≤ x ∧ x ≤ 30) → (∀ x ∈ b, 0 ≤ x ∧ x ≤ 40) → (IsF a b l n ↔ InP b l ∧ l.length = b.length ∧ wsm a l = n)
  | s :: a, c :: b, x :: l, n, h, ha, hb => by
    have ha' : ∀ x ∈ a, 1 ≤ x ∧ x ≤ 30 := fun y hy => ha y (by simp [hy])
    have hb' : ∀ x ∈ b, 0 ≤ x ∧ x ≤ 40 := fun y hy => hb y (by simp [hy])
    have hs := ha s (by simp)
    have ih := fun m => isF_iff a b l m (by simpa using h) ha' hb'
    have e1 : IsF (s :: a) (c :: b) (x :: l) n ↔ (0 ≤ x ∧ x ≤ c ∧ x.toNat * s.toNat ≤ n ∧ IsF a b l (n - x.toNat * s.toNat)) := Iff.rfl
    have e2 : InP (c :: b) (x :: l) ↔ ((0 ≤ x ∧ x ≤ c) ∧ InP b l) := Iff.rfl
    have e3 : wsm (s :: a) (x :: l) = x * s + wsm a l := rfl
    rw [e1, e2, e3, ih, List.length_cons, List.length_cons]
    have em : 0 ≤ x → ((x.toNat * s.toNat : Nat) : Int) = x * s := fun hx => by
      rw [Int.natCast_mul, Int.toNat_of_nonneg hx, Int.toNat_of_nonneg (by omega)]
    constructor
    · rintro ⟨h1, h2, h3, h4, h5, h6⟩
      have := em h1
      exact ⟨⟨⟨h1, h2⟩, h4⟩, by omega, by omega⟩
    · rintro ⟨⟨⟨h1, h2⟩, h4⟩, h5, h6⟩
      have := em h1
      have := InP_bd a b l ha' hb' h4
      exact ⟨h1, h2, by omega, h4, by omega, by omega⟩
  | [], [], [], n, _, _, _ => by
    show n = 0 ↔ True ∧ _ ∧ (0 : Int) = n
    constructor
    · rintro rfl; simp
    · rintro ⟨_, _, h⟩; omega
  | [], [], _ :: _, _, _, _, _ => by simp [IsF, InP]
  | [], _ :: _, _, _, h, _, _ => by simp at h
  | _ :: _, [], _, _, h, _, _ => by simp at h
  | _ :: _, _ :: _, [], _, _, _, _ => by simp [IsF]
theorem fill_first : ∀ (a b l : List Int) (n : Nat), IsF a b l n → pk l = fw a b n → fw a b n < 1001 → ¬ lx l (fillL a b n)
  | s :: a, c :: b, x :: l, n, h, he, h1001 => by
    obtain ⟨h1, h2, h3, h4⟩ := h
    obtain ⟨k, e⟩ := ma_fst (s := s.toNat) (g := fw a b) n c.toNat
    have hv : fw (s :: a) (c :: b) n = mv s.toNat (fw a b) c.toNat n := by
      show val s.toNat c.toNat (fw a b) n = _
      have h : val s.toNat c.toNat (fw a b) n < 1001 := h1001
      unfold val at h ⊢
      split at h
      · rename_i h2; rw [if_pos h2]
      · omega
    have he : x + pk l = fw (s :: a) (c :: b) n := he
    have hb := k.best x.toNat (by omega) h3
    have ho := opt1 a b l _ h4
    have h0 := fw_bd a b (n - ma s.toNat (fw a b) c.toNat n * s.toNat)
    show ¬ (x < ((ma s.toNat (fw a b) c.toNat n : Nat) : Int) ∨ (x = ((ma s.toNat (fw a b) c.toNat n : Nat) : Int) ∧ lx l (fillL a b (n - ma s.toNat (fw a b) c.toNat n * s.toNat))))
    rintro (hlt | ⟨heq, hlt⟩)
    · have := k.first x.toNat (by omega) h3
      omega
    · have hx : x.toNat = ma s.toNat (fw a b) c.toNat n := by omega
      rw [hx] at h4 ho
      exact fill_first a b l _ h4 (by omega) (by omega) hlt
  | [], [], [], _, _, _, _ => fun h => h
  | [], [], _ :: _, _, h, _, _ => h.elim
  | [], _ :: _, _, _, h, _, _ => h.elim
  | _ :: _, [], _, _, h, _, _ => h.elim
  | _ :: _, _ :: _, [], _, h, _, _ => h.elim
/-- One number changed. -/
theorem wsm_set : ∀ (a l : List Int) (i : Nat) (v : Int), i < a.length → i < l.length → wsm a (l.set i v) = wsm a l + (v - nth l i) * nth a i
  | [], _, _, _, h, _ => by simp at h
  | _ :: _, [], _, _, _, h => by simp at h
  | s :: a, x :: l, 0, v, _, _ => by
    show v * s + wsm a l = x * s + wsm a l + (v - x) * s
    rw [Int.sub_mul]; omega
  | s :: a, x :: l, i + 1, v, h1, h2 => by
    have := wsm_set a l i v (by simpa using h1) (by simpa using h2)
    show x * s + wsm a (l.set i v) = x * s + wsm a l + (v - nth l i) * nth a i
    omega
theorem InP_set : ∀ (b l : List Int) (i : Nat) (d v : Int), InP b l → 0 ≤ v ∧ v ≤ d → InP (b.set i d) (l.set i v)
  | b, [], i, d, v, _, _ => by cases h : b.set i d <;> simp [InP]
  | [], _ :: _, _, _, _, h, _ => h.elim
  | c :: b, x :: l, 0, d, v, h, hv => ⟨hv, h.2⟩
  | c :: b, x :: l, i + 1, d, v, h, hv => ⟨h.1, InP_set b l i d v h.2 hv⟩
/-- Which numbers of one size occur. -/
theorem occ {a b : List Int} (hab : Good a b) {n i j : Nat} (hi : i < a.length) (hj : (j : Int) ≤ nth b i) :
    (j * (nth a i).toNat ≤ n ∧ W a (b.set i 0) (n - j * (nth a i).toNat) ≠ 0) ↔ ∃ l ∈ en b, wsm a l = n ∧ nth l i = j := by
  have hl := hab.len
  have hib : i < b.length := by omega
  have ha := nth_get hi
  have hb := nth_get hib
  have hsa := hab.sz _ (List.getElem_mem hi)
  have hab2 := hab.setZero i
  have e1 := hab2.len
  have hb0 : ∀ x ∈ b, 0 ≤ x := fun x hx => (hab.st x hx).1
  have hb20 : ∀ x ∈ b.set i 0, 0 ≤ x := fun x hx => (hab2.st x hx).1
  have ej : ((j * (nth a i).toNat : Nat) : Int) = (j : Int) * nth a i := by
    rw [Int.natCast_mul, Int.toNat_of_nonneg (by omega)]
  have hW : ∀ m : Nat, W a (b.set i 0) m ≠ 0 ↔ ∃ l ∈ en (b.set i 0), wsm a l = m := fun m => by
    rw [W_uf fun x hx => by have := hab.sz x hx; omega, ← cn_uf _ _ _ (by omega)]
    have := cn_zero (a := a) (n := m) (P := en (b.set i 0))
    constructor
    · intro h
      false_or_by_contra
      rename_i hh
      exact h (by rw [this.2 fun l hl he => hh ⟨l, hl, he⟩]; rfl)
    · rintro ⟨l, hl, he⟩ h0
      exact this.1 (by omega) l hl he
  rw [hW]
  constructor
  · rintro ⟨h1, l, h2, h3⟩
    obtain ⟨m1, m2⟩ := (en_mem _ l hb20).1 h2
    have hil : i < l.length := by rw [m2]; simpa using hib
    have hz := InP_get _ _ m1 i hil (by simpa using hib)
    rw [List.getElem_set_self] at hz
    have hnl : nth l i = 0 := by rw [nth_get hil]; omega
    refine ⟨l.set i j, (en_mem _ _ hb0).2 ⟨?_, by rw [List.length_set, m2]; simp⟩, ?_, ?_⟩
    · have := InP_set _ _ i (nth b i) (j : Int) m1 ⟨by omega, hj⟩
      rw [List.set_set] at this
      rwa [hb, List.set_getElem_self] at this
    · rw [wsm_set _ _ _ _ hi hil, hnl, h3]
      simp only [Int.sub_zero]; omega
    · rw [nth_get (by simpa using hil), List.getElem_set_self]
  · rintro ⟨l, h1, h2, h3⟩
    obtain ⟨m1, m2⟩ := (en_mem _ l hb0).1 h1
    have hil : i < l.length := by omega
    have hw := wsm_set a l i 0 hi hil
    rw [h2, h3, Int.zero_sub, Int.neg_mul] at hw
    have hin := InP_set _ _ i 0 (0 : Int) m1 ⟨by omega, by omega⟩
    have := InP_bd a _ _ hab.sz hab2.st hin
    refine ⟨by omega, l.set i 0, (en_mem _ _ hb20).2 ⟨hin, by simp [m2]⟩, by omega⟩
/-- What Span answers. -/
def V (g : Nat → Int) (s n j : Nat) : Prop := j * s ≤ n ∧ g (n - j * s) ≠ 0
theorem V_stop {g : Nat → Int} {s n j k : Nat} (h : n < j * s) (hk : j ≤ k) : ¬ V g s n k := fun hv => by
  have := Nat.mul_le_mul_right s hk
  have := hv.1
  omega
theorem spl_zero (g : Nat → Int) (s n : Nat) : ∀ (m j : Nat) (p q : Int), ∃ q', spl g s n m j p q 0 = (p, q', 0) ∧ (∀ k, j ≤ k → k < j + m → V g s n k → (k : Int) ≤ q') ∧ (q' = q ∨ ∃ k : Nat, j ≤ k ∧ k < j + m ∧ V g s n k ∧ q' = k)
  | 0, j, p, q => ⟨q, rfl, fun k h1 h2 => by omega, Or.inl rfl⟩
  | m + 1, j, p, q => by
    have d : spl g s n (m + 1) j p q 0 = if j * s ≤ n then (if g (n - j * s) = 0 then spl g s n m (j + 1) p q 0 else spl g s n m (j + 1) p j 0) else (p, q, 0) := by
      rw [spl]; simp
    rw [d]
    by_cases h1 : j * s ≤ n
    · rw [if_pos h1]
      by_cases h2 : g (n - j * s) = 0
      · rw [if_pos h2]
        obtain ⟨q', e1, e2, e3⟩ := spl_zero g s n m (j + 1) p q
        refine ⟨q', e1, fun k k1 k2 k3 => ?_, ?_⟩
        · by_cases hk : k = j
          · subst hk; exact absurd h2 k3.2
          · exact e2 k (by omega) (by omega) k3
        · rcases e3 with e3 | ⟨k, k1, k2, k3⟩
          · exact Or.inl e3
          · exact Or.inr ⟨k, by omega, by omega, k3⟩
      · rw [if_neg h2]
        obtain ⟨q', e1, e2, e3⟩ := spl_zero g s n m (j + 1) p j
        refine ⟨q', e1, fun k k1 k2 k3 => ?_, ?_⟩
        · by_cases hk : k = j
          · rcases e3 with e3 | ⟨k', k1', k2', k3', k4'⟩
            · omega
            · omega
          · exact e2 k (by omega) (by omega) k3
        · rcases e3 with e3 | ⟨k, k1, k2, k3⟩
          · exact Or.inr ⟨j, by omega, by omega, ⟨h1, h2⟩, e3⟩
          · exact Or.inr ⟨k, by omega, by omega, k3⟩
    · rw [if_neg h1]
      exact ⟨q, rfl, fun k k1 _ k3 => absurd k3 (V_stop (by omega) k1), Or.inl rfl⟩
theorem spl_other (g : Nat → Int) (s n : Nat) {e : Int} (he : e ≠ 0) : ∀ (m j : Nat) (p q : Int), (spl g s n m j p q e = (p, q, e) ∧ ∀ k, j ≤ k → k < j + m → ¬ V g s n k) ∨
    ∃ u v : Nat, spl g s n m j p q e = ((u : Int), (v : Int), (0 : Int)) ∧ (j ≤ u ∧ u < j + m ∧ V g s n u) ∧ (j ≤ v ∧ v < j + m ∧ V g s n v) ∧ ∀ k, j ≤ k → k < j + m → V g s n k → u ≤ k ∧ k ≤ v
  | 0, j, p, q => Or.inl ⟨rfl, fun k h1 h2 => by omega⟩
  | m + 1, j, p, q => by
    have d : spl g s n (m + 1) j p q e = if j * s ≤ n then (if g (n - j * s) = 0 then spl g s n m (j + 1) p q e else spl g s n m (j + 1) j j 0) else (p, q, e) := by
      rw [spl]; simp only [if_neg he]
    rw [d]
    by_cases h1 : j * s ≤ n
    · rw [if_pos h1]
      by_cases h2 : g (n - j * s) = 0
      · rw [if_pos h2]
        have hno : ∀ k, k = j → ¬ V g s n k := fun k hk hv => by subst hk; exact hv.2 h2
        rcases spl_other g s n he m (j + 1) p q with ⟨e1, e2⟩ | ⟨u, v, e1, ⟨u1, u2, u3⟩, ⟨v1, v2, v3⟩, e4⟩
        · refine Or.inl ⟨e1, fun k k1 k2 => ?_⟩
          by_cases hk : k = j
          · exact hno k hk
          · exact e2 k (by omega) (by omega)
        · refine Or.inr ⟨u, v, e1, ⟨by omega, by omega, u3⟩, ⟨by omega, by omega, v3⟩, fun k k1 k2 k3 => ?_⟩
          by_cases hk : k = j
          · exact absurd k3 (hno k hk)
          · exact e4 k (by omega) (by omega) k3
      · rw [if_neg h2]
        right
        obtain ⟨q', e1, e2, e3⟩ := spl_zero g s n m (j + 1) j j
        have hj : V g s n j := ⟨h1, h2⟩
        rcases e3 with e3 | ⟨k, k1, k2, k3, k4⟩
        · refine ⟨j, j, by rw [e1, e3], ⟨by omega, by omega, hj⟩, ⟨by omega, by omega, hj⟩, fun k k1 k2 k3 => ?_⟩
          by_cases hk : k = j
          · omega
          · have := e2 k (by omega) (by omega) k3
            omega
        · refine ⟨j, k, by rw [e1, k4], ⟨by omega, by omega, hj⟩, ⟨by omega, by omega, k3⟩, fun i i1 i2 i3 => ?_⟩
          by_cases hk : i = j
          · omega
          · have := e2 i (by omega) (by omega) i3
            omega
    · rw [if_neg h1]
      exact Or.inl ⟨rfl, fun k k1 _ => V_stop (by omega) k1⟩
/-- All of it. -/
theorem p2_same {F : Nat} {x1 x2 x3 : Int} {x4 x5 : List Int} {x6 : Int} {x11 x12 x13 x14 : Nat} {x16 x17 : List Int} {x19 x20 : Nat} : ∀ (k : Nat) (x66 : Int) (x67 : List Int) (x68 x69 : Int) (x63 x64 : List Int) (x70 : Bool) (x65 : List Int),
    f81_1_p2 F x1 x2 x3 x4 x5 x6 x11 x12 x13 x14 x16 x17 x19 x20 k x66 x67 x68 x69 x63 x64 x70 x65 = f81_2_p2 F (f81_2 F F) x1 x2 x3 x4 x5 x6 x11 x12 x13 x14 x16 x17 x19 x20 k x66 x67 x68 x69 x63 x64 x70 x65 := by
  intro k
  induction k with
  | zero => intro _ _ _ _ _ _ _ _; rfl
  | succ k ih =>
    intro x66 x67 x68 x69 x63 x64 x70 x65
    unfold f81_1_p2 f81_2_p2
    simp only [ih]
def fin (a b : List Int) (n : Nat) : St := (en b).foldl (Pack.step a n) ⟨[], 1073741824, 0, List.replicate a.length 0, List.replicate a.length 0⟩
theorem f45_1_eq {F : Nat} (hF : 1100 ≤ F) {a b : List Int} {n : Nat} (hst : stk a b = 0) (hn : n ≤ 1000) (hlen : (en b).length ≤ 100000) :
    f45_1 F a b a b n 1073741824 0 (List.replicate a.length 0) (List.replicate a.length 0) 0 a.length 0 a.length true = some (.c1 (fin a b n).best (fin a b n).few (fin a b n).cnt (fin a b n).lo (fin a b n).hi true) := by
  have h5 := (Good.of hst).five
  have h0 : 0 < a.length := (ck_zero (stk_zero hst).1).1
  have hne : ((0 : Int) == ((a.length : Nat) : Int)) = false := by rw [beq_eq_false_iff_ne]; omega
  obtain ⟨τ, rest', t1, _, t3⟩ := f81_2_eq (F := F) hF hst hn (F + 1) [] (List.replicate a.length 0) ⟨[], 1073741824, 0, List.replicate a.length 0, List.replicate a.length 0⟩ (by simp) (by simp only [List.length_nil]; omega) (by simp) (by cases b <;> trivial) ⟨by simp, by simp, by simp⟩ (by simp only [List.length_nil, List.drop_zero]; omega)
  have et : τ = fin a b n := by
    rw [t1]
    show (List.map (fun x => x) (en b)).foldl _ _ = _
    rw [List.map_id']; rfl
  subst et
  have e1 : wsm a [] = 0 := by cases a <;> rfl
  rw [e1] at t3
  have t3 : f81_2_b F (f81_2 F F) 0 0 0 a b n [] 1073741824 0 (List.replicate a.length 0) (List.replicate a.length 0) 0 a.length 0 a.length true a b (List.replicate a.length 0) 0 a.length = _ := t3
  unfold f81_2_b at t3
  rw [hne, if_neg (by decide)] at t3
  obtain ⟨k, rfl⟩ : ∃ k, F = k + 1 := ⟨F - 1, by omega⟩
  unfold f45_1
  rw [req_pos (by omega), Int.toNat_natCast]
  show Option.bind (f81_1_b (k + 1) (f81_1 (k + 1) k) 0 0 0 a b n 1073741824 0 (List.replicate a.length 0) (List.replicate a.length 0) 0 a.length 0 a.length true a b (List.replicate a.length 0) 0 a.length) _ = _
  unfold f81_1_b
  rw [hne, if_neg (by decide), p2_same]
  generalize f81_2_p2 (k + 1) (f81_2 (k + 1) (k + 1)) 0 0 0 a b n 0 a.length 0 a.length a b 0 a.length (k + 1) 0 [] 1073741824 0 (List.replicate a.length 0) (List.replicate a.length 0) true (List.replicate a.length 0) = X at t3 ⊢
  cases X with
  | none => simp at t3
  | some v =>
    obtain ⟨v1, v2, v3, v4, v5, v6, v7⟩ := v
    simp only [Option.bind_some, Option.some.injEq, Prod.mk.injEq] at t3
    obtain ⟨rfl, rfl, rfl, rfl, rfl, rfl, rfl⟩ := t3
    rfl
theorem fin_inv {a b : List Int} {n : Nat} (hab : Good a b) : Inv a n (en b) (fin a b n) := by
  have h5 := hab.five
  have hl := hab.len
  have := Inv.fold (a := a) (n := n) (en b) [] ⟨[], 1073741824, 0, List.replicate a.length 0, List.replicate a.length 0⟩ ⟨⟨by simp, by simp, by simp⟩, rfl, fun _ => rfl, fun l h => by simp at h, fun i _ l h => by simp at h, fun i _ l h => by simp at h⟩ (en_lx b) fun l hl2 => by
    obtain ⟨m1, m2⟩ := (en_mem b l fun x hx => (hab.st x hx).1).1 hl2
    have := InP_bd a b l hab.sz hab.st m1
    exact ⟨by omega, by omega⟩
  exact this
end

end Go.Gh.Pack
