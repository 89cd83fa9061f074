/- Fans: what a valid fan is, and small functions. -/
import Derived.Test.YtidfbhlhogkfmaaFanT
namespace Go.Gh.Fan
set_option linter.unusedVariables false
set_option linter.unusedSimpArgs false

/-- A valid fan. -/
structure Val (n : Int) (w : Bool) (l : List Int) : Prop where
  rng : 1 ≤ n ∧ n ≤ 8
  len : (l.length : Int) = 2 * n
  inr : ∀ x ∈ l, 0 ≤ x ∧ x ≤ n
  kind : ∀ k, 1 ≤ k → k ≤ n → errP (dist w k) (posF 0 l k) = 0

theorem errs_zero {w : Bool} {l : List Int} : ∀ (m : Nat) (k : Int), errs w l m k = 0 ↔ ∀ j, k ≤ j → j < k + m → errP (dist w j) (posF 0 l j) = 0
  | 0, k => by
    simp only [errs, true_iff]
    intro j h1 h2; omega
  | m + 1, k => by
    simp only [errs]
    by_cases h : errP (dist w k) (posF 0 l k) = 0
    · rw [if_pos h, errs_zero m (k + 1)]
      constructor
      · intro g j h1 h2
        by_cases e : j = k
        · rw [e]; exact h
        · exact g j (by omega) (by omega)
      · intro g j h1 h2; exact g j (by omega) (by omega)
    · rw [if_neg h]
      constructor
      · intro g; exact absurd g h
      · intro g; exact g k (by omega) (by omega)

theorem inR_iff {n : Int} {l : List Int} : inR n l = true ↔ ∀ x ∈ l, 0 ≤ x ∧ x ≤ n := by simp [inR]

theorem code_zero {n : Int} {w : Bool} {l : List Int} : code n w l = 0 ↔ Val n w l := by
  unfold code
  by_cases h1 : 1 ≤ n ∧ n ≤ 8
  · by_cases h2 : (l.length : Int) = 2 * n
    · by_cases h3 : inR n l = true
      · simp only [h1, h2, h3, and_self, if_true, errs_zero]
        constructor
        · intro g; exact ⟨h1, h2, inR_iff.1 h3, fun k a b => g k a (by omega)⟩
        · intro g j a b; exact g.kind j a (by omega)
      · simp only [h1, h2, h3, and_self, if_true]
        constructor
        · intro g; simp at g
        · intro g; exact absurd (inR_iff.2 g.inr) h3
    · simp only [h1, h2, and_self, if_true, if_false]
      constructor
      · intro g; simp at g
      · intro g; exact absurd g.len h2
  · simp only [h1, if_false]
    constructor
    · intro g; simp at g
    · intro g; exact absurd g.rng h1

/-- A kind of a valid fan has no place, or two at its distance. -/
theorem Val.two {n : Int} {w : Bool} {l : List Int} (h : Val n w l) {k : Int} (h1 : 1 ≤ k) (h2 : k ≤ n) : posF 0 l k = [] ∨ ∃ a : Int, posF 0 l k = [a, a + dist w k] := by
  have := h.kind k h1 h2
  unfold errP at this
  generalize posF 0 l k = ps at *
  match ps with
  | [] => exact .inl rfl
  | [a] => simp at this
  | [a, b] =>
    right
    refine ⟨a, ?_⟩
    by_cases e : b = a + dist w k
    · rw [e]
    · simp [e] at this
  | a :: b :: c :: r => simp at this

/- sums -/
def S (f : Nat → Nat) : Nat → Nat
  | 0 => 0
  | n + 1 => S f n + f n
theorem S_congr {f g : Nat → Nat} : ∀ {n : Nat}, (∀ i, i < n → f i = g i) → S f n = S g n
  | 0, _ => rfl
  | n + 1, h => by simp only [S]; rw [S_congr (n := n) fun i hi => h i (by omega), h n (by omega)]
theorem S_zero : ∀ n : Nat, S (fun _ => 0) n = 0
  | 0 => rfl
  | n + 1 => by simp [S, S_zero n]
theorem S_delta {f : Nat → Nat} {x : Nat} : ∀ {n : Nat}, x < n → S (fun i => if x = i then f i + 1 else f i) n = S f n + 1
  | n + 1, h => by
    simp only [S]
    by_cases e : x = n
    · subst e
      rw [S_congr (g := f) (fun i hi => by rw [if_neg (by omega)])]
      simp; omega
    · rw [S_delta (by omega), if_neg e]; omega
theorem S_le {f g : Nat → Nat} : ∀ {n : Nat}, (∀ i, i < n → f i ≤ g i) → S f n ≤ S g n
  | 0, _ => Nat.le_refl _
  | n + 1, h => by
    have := S_le (n := n) fun i hi => h i (by omega)
    have := h n (by omega)
    simp only [S]; omega
theorem S_lt {f g : Nat → Nat} {x : Nat} : ∀ {n : Nat}, (∀ i, i < n → f i ≤ g i) → x < n → f x < g x → S f n < S g n
  | n + 1, h, hx, hl => by
    simp only [S]
    have h1 := h n (by omega)
    by_cases e : x = n
    · subst e
      have := S_le (f := f) (g := g) (n := x) fun i hi => h i (by omega)
      omega
    · have := S_lt (n := n) (fun i hi => h i (by omega)) (by omega) hl
      omega
theorem S_const (c : Nat) : ∀ n : Nat, S (fun _ => c) n = c * n
  | 0 => rfl
  | n + 1 => by simp only [S, S_const c n, Nat.mul_add, Nat.mul_one]

theorem count_all {n : Nat} : ∀ (l : List Int) (i : Int), (∀ x ∈ l, 0 ≤ x ∧ x < (n : Int)) → S (fun k => (posF i l (k : Int)).length) n = l.length
  | [], i, _ => by simp [posF, S_zero]
  | x :: l, i, h => by
    have ih := count_all l (i + 1) fun y hy => h y (List.mem_cons_of_mem _ hy)
    obtain ⟨m, rfl⟩ := Int.eq_ofNat_of_zero_le (h x (List.mem_cons_self ..)).1
    have hm := (h m (List.mem_cons_self ..)).2
    rw [List.length_cons, ← ih, ← S_delta (x := m) (by omega)]
    apply S_congr
    intro k _
    simp only [posF]
    by_cases e : (m : Int) = (k : Int)
    · rw [if_pos e, if_pos (by omega)]; simp
    · rw [if_neg e, if_neg (by omega)]

/-- No place is empty just if all kinds are there. -/
theorem Val.full {n : Int} {w : Bool} {l : List Int} (h : Val n w l) : (posF 0 l 0 = []) ↔ ∀ k, 1 ≤ k → k ≤ n → posF 0 l k ≠ [] := by
  obtain ⟨m, rfl⟩ := Int.eq_ofNat_of_zero_le (show 0 ≤ n by have := h.rng; omega)
  have hs := count_all (n := m + 1) l 0 fun x hx => by have := h.inr x hx; omega
  have hl := h.len
  -- the sum without the empty places
  have hs2 : S (fun k => (posF 0 l ((k + 1 : Nat) : Int)).length) m + (posF 0 l 0).length = l.length := by
    rw [← hs]
    clear hs hl h
    induction m with
    | zero => simp [S]
    | succ m ih => simp only [S] at ih ⊢; omega
  have hle : ∀ i, i < m → (posF 0 l ((i + 1 : Nat) : Int)).length ≤ 2 := fun i hi => by
    rcases h.two (k := ((i + 1 : Nat) : Int)) (by omega) (by omega) with e | ⟨a, e⟩ <;> rw [e] <;> simp
  have hc := S_const 2 m
  constructor
  · intro he k h1 h2 hk
    obtain ⟨j, rfl⟩ : ∃ j : Nat, k = ((j + 1 : Nat) : Int) := ⟨(k - 1).toNat, by omega⟩
    have := S_lt (f := fun k => (posF 0 l ((k + 1 : Nat) : Int)).length) (g := fun _ => 2) (x := j) (n := m) hle (by omega) (by show (posF 0 l ((j + 1 : Nat) : Int)).length < 2; rw [hk]; simp)
    have hz : (posF 0 l 0).length = 0 := by rw [he]; rfl
    omega
  · intro hk
    have : S (fun k => (posF 0 l ((k + 1 : Nat) : Int)).length) m = S (fun _ => 2) m := S_congr fun i hi => by
      rcases h.two (k := ((i + 1 : Nat) : Int)) (by omega) (by omega) with e | ⟨a, e⟩
      · exact absurd e (hk _ (by omega) (by omega))
      · rw [e]; rfl
    exact List.length_eq_zero_iff.1 (by omega)

/- lists -/
theorem f74_p1_eq (F : Nat) (v : Int) : ∀ (s p : List Int) (f : Nat), s.length < f → p.length + s.length ≤ 1000 → v ∉ p →
    ∃ r, f74_p1 F (p ++ s) v f p.length = some r ∧ ((∃ i : Nat, r = .c0 (i : Int) ∧ v ∈ s) ∨ (r = .c1 ∧ v ∉ s))
  | [], p, f + 1, _, _, _ => ⟨.c1, by simp [f74_p1], .inr ⟨rfl, by simp⟩⟩
  | x :: s, p, f + 1, hf, hl, hp => by
    simp only [List.length_cons] at hf hl
    have hlt : ((p.length : Int) < (((p ++ x :: s).length : Nat) : Int)) := by simp; omega
    simp only [f74_p1, decide_eq_true hlt, if_true, at_mid, Option.bind_some, w64_nat (show p.length < 1000000 by omega)]
    by_cases e : v = x
    · subst e
      exact ⟨.c0 p.length, by simp, .inl ⟨p.length, rfl, by simp⟩⟩
    · obtain ⟨r, h1, h2⟩ := f74_p1_eq F v s (p ++ [x]) f (by omega) (by simp; omega) (by simp [hp, e])
      simp only [List.append_assoc, List.singleton_append, List.length_append, List.length_singleton] at h1
      refine ⟨r, by rw [if_neg (by simpa using e)]; exact h1, ?_⟩
      rcases h2 with ⟨i, h2, h3⟩ | ⟨h2, h3⟩
      · exact .inl ⟨i, h2, List.mem_cons_of_mem _ h3⟩
      · exact .inr ⟨h2, by simp [e, h3]⟩

theorem f46_eq {F : Nat} {l : List Int} (hF : l.length < F) (hl : l.length ≤ 1000) (v : Int) : f46 F l v = some (decide (v ∈ l)) := by
  obtain ⟨r, h1, h2⟩ := f74_p1_eq F v l [] F hF (by simpa using hl) (by simp)
  simp only [List.nil_append, List.length_nil] at h1
  simp only [Int.natCast_zero] at h1
  unfold f46 f74
  rw [h1]
  rcases h2 with ⟨i, rfl, h3⟩ | ⟨rfl, h3⟩
  · have : ((i : Nat) : Int) ≥ 0 := by omega
    simp [h3]
  · simp [h3]

theorem f22_p2_refl (F : Nat) : ∀ (s p : List Int) (f : Nat), s.length < f → p.length + s.length ≤ 1000 → f22_p2 F (p ++ s) (p ++ s) f p.length = some .c1
  | [], p, f + 1, _, _ => by simp [f22_p2]
  | x :: s, p, f + 1, hf, hl => by
    simp only [List.length_cons] at hf hl
    have hlt : ((p.length : Int) < (((p ++ x :: s).length : Nat) : Int)) := by simp; omega
    have ih := f22_p2_refl F s (p ++ [x]) f (by omega) (by simp; omega)
    simp only [List.append_assoc, List.singleton_append, List.length_append, List.length_singleton] at ih
    simp only [f22_p2, decide_eq_true hlt, if_true, at_mid, Option.bind_some, w64_nat (show p.length < 1000000 by omega), ih]
    simp

theorem f22_refl {F : Nat} {l : List Int} (hF : l.length < F) (hl : l.length ≤ 1000) : f22 F l l = some true := by
  have h1 := f22_p2_refl F l [] F hF (by simpa using hl)
  simp only [List.nil_append, List.length_nil] at h1
  simp only [Int.natCast_zero] at h1
  unfold f22
  rw [h1]; simp

end Go.Gh.Fan
