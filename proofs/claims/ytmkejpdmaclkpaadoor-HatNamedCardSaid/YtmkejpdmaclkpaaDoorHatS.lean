/- Hats: small arithmetic, looked at by the kernel; lists. -/
import Derived.Test.YtmkejpdmaclkpaaDoorHat13N0
namespace Go.Gh.Hat
set_option linter.unusedVariables false
set_option linter.unusedSimpArgs false

theorem w64_in {n : Int} (h : -9223372036854775808 ≤ n ∧ n < 9223372036854775808) : w64 n = n := by
  unfold w64 IntKind.wrap
  simp [IntKind.bits, IntKind.signed]
  split <;> omega

theorem w64_nat {n : Nat} (h : n < 1000000) : w64 ((n : Int) + 1) = ((n + 1 : Nat) : Int) := by
  rw [w64_in (by omega)]; omega

theorem at_mid {α : Type} (p : List α) (x : α) (s : List α) : at? (p ++ x :: s) ((p.length : Nat) : Int) = some x := by
  unfold at?; simp

theorem at_of {α : Type} {l : List α} {i : Nat} {x : α} (h : l[i]? = some x) : at? l ((i : Nat) : Int) = some x := by
  unfold at?; simp [h]

theorem req_pos {α : Type} {p : Prop} [Decidable p] {x : Option α} (h : p) : req p x = x := by unfold req; rw [if_pos h]

theorem take0 {α : Type} (l : List α) : List.drop 0 (List.take (0 + l.length) l) = l := by simp

theorem works : f14 1000 = some true := by decide +kernel

def bit (c i : Nat) : Nat := c / 2 ^ i % 2
def flip (c i : Nat) : Nat := if bit c i = 1 then c - 2 ^ i else c + 2 ^ i
def seenN (c i : Nat) : Nat := c % 2 ^ i + c / (2 * 2 ^ i) * 2 ^ i

def look64 : Bool := (List.range 7).all fun i => (List.range 128).all fun c => f64 1000 c i == some ((seenN c i : Nat) : Int)
theorem look64_true : look64 = true := by decide +kernel
theorem ar64 {i c : Nat} (hi : i < 7) (hc : c < 128) : f64 1000 c i = some ((seenN c i : Nat) : Int) := by
  have h1 := List.all_eq_true.1 look64_true i (by simpa using hi)
  have h2 := List.all_eq_true.1 h1 c (by simpa using hc)
  simpa only [beq_iff_eq] using h2

def lookX : Bool := (List.range 7).all fun i => (List.range 128).all fun c => iXor .i64 c (iShl .i64 1 i) == ((flip c i : Nat) : Int)
theorem lookX_true : lookX = true := by decide +kernel
theorem arX {i c : Nat} (hi : i < 7) (hc : c < 128) : iXor .i64 c (iShl .i64 1 i) = ((flip c i : Nat) : Int) := by
  have h1 := List.all_eq_true.1 lookX_true i (by simpa using hi)
  have h2 := List.all_eq_true.1 h1 c (by simpa using hc)
  simpa only [beq_iff_eq] using h2

def lookB : Bool := (List.range 7).all fun i => (List.range 128).all fun c => iAnd .i64 (iShr .i64 c i) 1 == ((bit c i : Nat) : Int)
theorem lookB_true : lookB = true := by decide +kernel
theorem arB {i c : Nat} (hi : i < 7) (hc : c < 128) : iAnd .i64 (iShr .i64 c i) 1 = ((bit c i : Nat) : Int) := by
  have h1 := List.all_eq_true.1 lookB_true i (by simpa using hi)
  have h2 := List.all_eq_true.1 h1 c (by simpa using hc)
  simpa only [beq_iff_eq] using h2

theorem shl_eq {n : Nat} (h : n ≤ 7) : iShl .i64 1 ((n : Nat) : Int) = ((2 ^ n : Nat) : Int) := by
  have : ∀ n ∈ List.range 8, iShl .i64 1 ((n : Nat) : Int) = ((2 ^ n : Nat) : Int) := by decide +kernel
  exact this n (by simp; omega)

theorem pw_le {n : Nat} (h : n ≤ 7) : 1 ≤ 2 ^ n ∧ 2 ^ n ≤ 128 := by
  have : ∀ n ∈ List.range 8, 1 ≤ 2 ^ n ∧ 2 ^ n ≤ 128 := by decide +kernel
  exact this n (by simp; omega)

def rng : Bool := (List.range 8).all fun n => (List.range n).all fun i => (List.range (2 ^ n)).all fun c =>
  decide (seenN c i < 2 ^ (n - 1)) && (decide (flip c i < 2 ^ n) && (decide (flip (flip c i) i = c) && (decide (seenN (flip c i) i = seenN c i) && (decide (bit (flip c i) i = 1 - bit c i) && decide (flip c i ≠ c)))))

theorem rng_true : rng = true := by decide +kernel

theorem rg {n i c : Nat} (hn : n ≤ 7) (hi : i < n) (hc : c < 2 ^ n) : seenN c i < 2 ^ (n - 1) ∧ flip c i < 2 ^ n ∧ flip (flip c i) i = c ∧ seenN (flip c i) i = seenN c i ∧ bit (flip c i) i = 1 - bit c i ∧ flip c i ≠ c := by
  have h1 := List.all_eq_true.1 rng_true n (by simp; omega)
  have h2 := List.all_eq_true.1 h1 i (by simpa using hi)
  have h3 := List.all_eq_true.1 h2 c (by simpa using hc)
  simp only [Bool.and_eq_true, decide_eq_true_eq] at h3
  exact h3

theorem bit_le (c i : Nat) : bit c i ≤ 1 := by unfold bit; omega

/- comparing lists with themselves -/
theorem f21_refl {l : List Int} (hl : l.length ≤ 900) : f21 1000 l l = some true := by
  have key : ∀ (s p : List Int) (f : Nat), p ++ s = l → s.length < f → f21_p2 1000 l l f p.length = some .c1 := by
    intro s
    induction s with
    | nil =>
      intro p f hp hf
      obtain ⟨f, rfl⟩ : ∃ g, f = g + 1 := ⟨f - 1, by omega⟩
      rw [List.append_nil] at hp
      simp [f21_p2, ← hp]
    | cons x s ih =>
      intro p f hp hf
      simp only [List.length_cons] at hf
      obtain ⟨f, rfl⟩ : ∃ g, f = g + 1 := ⟨f - 1, by omega⟩
      have hlt : ((p.length : Int) < ((l.length : Nat) : Int)) := by rw [← hp]; simp; omega
      have hat : at? l ((p.length : Nat) : Int) = some x := by rw [← hp]; exact at_mid p x s
      simp only [f21_p2, decide_eq_true hlt, if_true, hat, Option.bind_some, bne_self_eq_false, Bool.false_eq_true, if_false]
      rw [w64_nat (by omega)]
      have := ih (p ++ [x]) f (by simpa using hp) (by omega)
      simpa using this
  unfold f21
  have := key l [] 1000 rfl (by omega)
  simp only [List.length_nil, Int.natCast_zero] at this
  simp [this]

theorem f22_refl {l : List (List Int)} (hl : l.length ≤ 900) (hx : ∀ x ∈ l, x.length ≤ 900) : f22 1000 l l = some true := by
  have key : ∀ (s p : List (List Int)) (f : Nat), p ++ s = l → s.length < f → f22_p2 1000 l l f p.length = some .c1 := by
    intro s
    induction s with
    | nil =>
      intro p f hp hf
      obtain ⟨f, rfl⟩ : ∃ g, f = g + 1 := ⟨f - 1, by omega⟩
      rw [List.append_nil] at hp
      simp [f22_p2, ← hp]
    | cons x s ih =>
      intro p f hp hf
      simp only [List.length_cons] at hf
      obtain ⟨f, rfl⟩ : ∃ g, f = g + 1 := ⟨f - 1, by omega⟩
      have hlt : ((p.length : Int) < ((l.length : Nat) : Int)) := by rw [← hp]; simp; omega
      have hat : at? l ((p.length : Nat) : Int) = some x := by rw [← hp]; exact at_mid p x s
      simp only [f22_p2, decide_eq_true hlt, if_true, hat, Option.bind_some]
      rw [f21_refl (hx x (by rw [← hp]; simp)), w64_nat (by omega)]
      have := ih (p ++ [x]) f (by simpa using hp) (by omega)
      simpa using this
  unfold f22
  have := key l [] 1000 rfl (by omega)
  simp only [List.length_nil, Int.natCast_zero] at this
  simp [this]

/- counting up -/
def sumF (f : Nat → Nat) : Nat → Nat → Nat
  | _, 0 => 0
  | i, m + 1 => f i + sumF f (i + 1) m
/-- The numbers for which it is so. -/
def filt (p : Nat → Bool) : Nat → Nat → List Int
  | _, 0 => []
  | i, m + 1 => (if p i = true then [(i : Int)] else []) ++ filt p (i + 1) m
def mapF (f : Nat → Int) : Nat → Nat → List Int
  | _, 0 => []
  | i, m + 1 => f i :: mapF f (i + 1) m

theorem sumF_le {f : Nat → Nat} {B : Nat} (h : ∀ i, f i ≤ B) : ∀ m i, sumF f i m ≤ B * m
  | 0, i => by simp [sumF]
  | m + 1, i => by
    have h1 := sumF_le h m (i + 1)
    have h2 := h i
    simp only [sumF, Nat.mul_add, Nat.mul_one]; omega
theorem filt_len (p : Nat → Bool) : ∀ m i, (filt p i m).length ≤ m
  | 0, i => by simp [filt]
  | m + 1, i => by
    have := filt_len p m (i + 1)
    simp only [filt, List.length_append]; split <;> simp <;> omega
theorem mapF_len (f : Nat → Int) : ∀ m i, (mapF f i m).length = m
  | 0, i => rfl
  | m + 1, i => by simp [mapF, mapF_len f m (i + 1)]
theorem sumF_congr {f g : Nat → Nat} : ∀ m i, (∀ j, i ≤ j → j < i + m → f j = g j) → sumF f i m = sumF g i m
  | 0, _, _ => rfl
  | m + 1, i, h => by
    simp only [sumF]
    rw [h i (by omega) (by omega), sumF_congr m (i + 1) fun j h1 h2 => h j (by omega) (by omega)]
theorem mapF_congr {f g : Nat → Int} : ∀ m i, (∀ j, i ≤ j → j < i + m → f j = g j) → mapF f i m = mapF g i m
  | 0, _, _ => rfl
  | m + 1, i, h => by
    simp only [mapF]
    rw [h i (by omega) (by omega), mapF_congr m (i + 1) fun j h1 h2 => h j (by omega) (by omega)]
theorem filt_congr {f g : Nat → Bool} : ∀ m i, (∀ j, i ≤ j → j < i + m → f j = g j) → filt f i m = filt g i m
  | 0, _, _ => rfl
  | m + 1, i, h => by
    simp only [filt]
    rw [h i (by omega) (by omega), filt_congr m (i + 1) fun j h1 h2 => h j (by omega) (by omega)]
theorem mem_filt {p : Nat → Bool} {x : Int} : ∀ m i, x ∈ filt p i m ↔ ∃ j : Nat, x = (j : Int) ∧ i ≤ j ∧ j < i + m ∧ p j = true
  | 0, i => by simp [filt]; omega
  | m + 1, i => by
    simp only [filt, List.mem_append, mem_filt m (i + 1)]
    constructor
    · rintro (h | ⟨j, h1, h2, h3, h4⟩)
      · by_cases g : p i = true
        · rw [if_pos g] at h
          exact ⟨i, by simpa using h, by omega, by omega, g⟩
        · rw [if_neg g] at h; cases h
      · exact ⟨j, h1, by omega, by omega, h4⟩
    · rintro ⟨j, h1, h2, h3, h4⟩
      by_cases e : j = i
      · subst e; exact .inl (by rw [if_pos h4]; simp [h1])
      · exact .inr ⟨j, h1, by omega, by omega, h4⟩
theorem mapF_get {f : Nat → Int} : ∀ m i k, k < m → (mapF f i m)[k]? = some (f (i + k))
  | m + 1, i, 0, _ => by simp [mapF]
  | m + 1, i, k + 1, h => by
    simp only [mapF, List.getElem?_cons_succ]
    rw [mapF_get m (i + 1) k (by omega), show i + 1 + k = i + (k + 1) by omega]

theorem f74_eq (F : Nat) (n : Int) : f74 F n = some (decide (1 ≤ n ∧ n ≤ 7)) := by
  unfold f74
  by_cases h : n ≥ 1
  · have : (decide (1 ≤ n ∧ n ≤ 7)) = decide (n ≤ 7) := by by_cases g : n ≤ 7 <;> simp [g]; omega
    rw [if_pos (by simpa using h), this]
  · rw [if_neg (by simpa using h)]; simp; omega
theorem mapF_set {f : Nat → Int} {v : Int} : ∀ m i k, k < m → (mapF f i m).set k v = mapF (fun j => if j = i + k then v else f j) i m
  | m + 1, i, 0, _ => by
    simp only [mapF, List.set_cons_zero, Nat.add_zero, if_true]
    rw [show mapF (fun j => if j = i then v else f j) (i + 1) m = mapF f (i + 1) m from mapF_congr m (i + 1) fun j h1 h2 => if_neg (by omega)]
  | m + 1, i, k + 1, h => by
    simp only [mapF, List.set_cons_succ]
    rw [mapF_set m (i + 1) k (by omega), if_neg (by omega), show i + 1 + k = i + (k + 1) by omega]
theorem mapF_rep (v : Int) : ∀ m i, List.replicate m v = mapF (fun _ => v) i m
  | 0, _ => rfl
  | m + 1, i => by simp only [List.replicate_succ, mapF]; rw [mapF_rep v m (i + 1)]

theorem sumF_add {f g : Nat → Nat} : ∀ m i, sumF (fun j => f j + g j) i m = sumF f i m + sumF g i m
  | 0, _ => rfl
  | m + 1, i => by simp only [sumF]; rw [sumF_add m (i + 1)]; omega

end Go.Gh.Hat
