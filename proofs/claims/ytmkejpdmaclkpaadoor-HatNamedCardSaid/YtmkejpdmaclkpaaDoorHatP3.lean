/- The plain law of HatCodes. -/
import Derived.Test.YtmkejpdmaclkpaaDoorHatS
namespace Go.Gh.Hat
set_option linter.unusedVariables false
set_option linter.unusedSimpArgs false

def errC (N : Nat) : Int → List Int → Int
  | _, [] => 0
  | last, c :: s => if ¬ (0 ≤ c ∧ c < (N : Int)) then 2 else if c ≤ last then 7 else errC N c s

def has (l : List Int) (x : Nat) : Nat := if (x : Int) ∈ l then 1 else 0
/-- How many elements of a code cover it. -/
def tm (n : Nat) (l : List Int) (x : Nat) : Nat := has l x + sumF (fun i => has l (flip x i)) 0 n
/-- An element covers it. -/
def cov (n c x : Nat) : Nat := (if x = c then 1 else 0) + sumF (fun i => if x = flip c i then 1 else 0) 0 n

theorem has_snoc {l : List Int} {c x : Nat} (h : (c : Int) ∉ l) : has (l ++ [(c : Int)]) x = has l x + (if x = c then 1 else 0) := by
  unfold has
  by_cases e : x = c
  · subst e
    rw [if_pos (by simp), if_neg h, if_pos rfl]
  · rw [if_neg e]
    by_cases g : (x : Int) ∈ l
    · rw [if_pos (by simp [g]), if_pos g]
    · rw [if_neg (by simp [g]; omega), if_neg g]

theorem tm_snoc {n : Nat} (hn : n ≤ 7) {l : List Int} {c x : Nat} (h : (c : Int) ∉ l) (hc : c < 2 ^ n) (hx : x < 2 ^ n) : tm n (l ++ [(c : Int)]) x = tm n l x + cov n c x := by
  unfold tm cov
  rw [has_snoc h]
  have : sumF (fun i => has (l ++ [(c : Int)]) (flip x i)) 0 n = sumF (fun i => has l (flip x i) + (if x = flip c i then 1 else 0)) 0 n := by
    apply sumF_congr
    intro i _ hi
    rw [has_snoc h]
    have e : (flip x i = c) ↔ (x = flip c i) := by
      constructor
      · intro e; rw [← e, (rg hn (by omega) hx).2.2.1]
      · intro e; rw [e, (rg hn (by omega) hc).2.2.1]
    by_cases g : x = flip c i
    · rw [if_pos g, if_pos (e.2 g)]
    · rw [if_neg g, if_neg (fun q => g (e.1 q))]
  rw [this, sumF_add]
  omega

theorem tm_le (n : Nat) (l : List Int) (x : Nat) : tm n l x ≤ 1 + n := by
  have h1 := sumF_le (f := fun i => has l (flip x i)) (B := 1) (fun i => by unfold has; split <;> omega) n 0
  have h2 : has l x ≤ 1 := by unfold has; split <;> omega
  unfold tm; omega

/-- Looking for a number. -/
theorem f36_eq {l : List Int} (hl : l.length ≤ 900) (y : Int) : f36 1000 l y = some (decide (y ∈ l)) := by
  have key : ∀ (s p : List Int) (f : Nat), p ++ s = l → s.length < f → ∃ r, f80_p1 1000 l y f p.length = some r ∧ ((y ∈ s ∧ ∃ i : Nat, r = .c0 i) ∨ (y ∉ s ∧ r = .c1)) := by
    intro s
    induction s with
    | nil =>
      intro p f hp hf
      obtain ⟨f, rfl⟩ : ∃ g, f = g + 1 := ⟨f - 1, by omega⟩
      rw [List.append_nil] at hp
      exact ⟨.c1, by simp [f80_p1, ← hp], .inr ⟨by simp, rfl⟩⟩
    | cons x s ih =>
      intro p f hp hf
      simp only [List.length_cons] at hf
      obtain ⟨f, rfl⟩ : ∃ g, f = g + 1 := ⟨f - 1, by omega⟩
      have hlt : ((p.length : Int) < ((l.length : Nat) : Int)) := by rw [← hp]; simp; omega
      have hat : at? l ((p.length : Nat) : Int) = some x := by rw [← hp]; exact at_mid p x s
      simp only [f80_p1, decide_eq_true hlt, if_true, hat, Option.bind_some]
      by_cases h : y = x
      · rw [if_pos (by simpa using h)]
        exact ⟨_, rfl, .inl ⟨by simp [h], _, rfl⟩⟩
      · rw [if_neg (by simpa using h), w64_nat (by omega)]
        obtain ⟨r, h1, h2⟩ := ih (p ++ [x]) f (by simpa using hp) (by omega)
        refine ⟨r, by simpa using h1, ?_⟩
        rcases h2 with ⟨h2, h3⟩ | ⟨h2, h3⟩
        · exact .inl ⟨List.mem_cons_of_mem _ h2, h3⟩
        · exact .inr ⟨by simp [h, h2], h3⟩
  obtain ⟨r, h1, h2⟩ := key l [] 1000 rfl (by omega)
  simp only [List.length_nil, Int.natCast_zero] at h1
  unfold f36 f80
  rw [h1]
  rcases h2 with ⟨h2, i, rfl⟩ | ⟨h2, rfl⟩
  · simp [h2]
  · simp [h2]

section
variable {n : Nat}

/-- The helpers' other colourings are counted. -/
theorem cov_p (hn : 1 ≤ n ∧ n ≤ 7) {c : Nat} (hc : c < 2 ^ n) (x2 : List Int) (x16 : Int) : ∀ (m i f : Nat) (g : Nat → Nat), m < f → i + m = n → (∀ x, g x ≤ 100 + i) →
    f59_p9_1 1000 n c x2 x16 f i (mapF (fun x => (g x : Int)) 0 (2 ^ n)) = some (mapF (fun x => ((g x + sumF (fun j => if x = flip c j then 1 else 0) i m : Nat) : Int)) 0 (2 ^ n))
  | 0, i, f + 1, g, _, hi, _ => by
    have : ¬ (i : Int) < (n : Int) := by omega
    simp [f59_p9_1, this, sumF]
  | m + 1, i, f + 1, g, hf, hi, hg => by
    have hp := pw_le hn.2
    have hr := (rg hn.2 (show i < n by omega) hc).2.1
    have hlt : (i : Int) < (n : Int) := by omega
    have hgx := hg (flip c i)
    simp only [f59_p9_1, decide_eq_true hlt, if_true]
    rw [arX (by omega) (by omega), shl_eq hn.2, req_pos (by omega)]
    simp only [Int.toNat_natCast, Nat.zero_add]
    rw [req_pos (by omega), mapF_get _ _ _ hr]
    simp only [Option.bind_some, Nat.zero_add]
    rw [req_pos (by rw [mapF_len]; exact hr), w64_nat (by omega), w64_nat (by omega), mapF_set _ _ _ hr]
    have e : mapF (fun j => if j = 0 + flip c i then ((g (flip c i) + 1 : Nat) : Int) else (g j : Int)) 0 (2 ^ n) = mapF (fun x => ((g x + (if x = flip c i then 1 else 0) : Nat) : Int)) 0 (2 ^ n) := by
      apply mapF_congr
      intro j _ _
      simp only [Nat.zero_add]
      by_cases q : j = flip c i
      · rw [if_pos q, if_pos q, q]
      · rw [if_neg q, if_neg q, Nat.add_zero]
    rw [e, cov_p hn hc x2 x16 m (i + 1) f (fun x => g x + (if x = flip c i then 1 else 0)) (by omega) (by omega) (fun x => by have := hg x; split <;> omega)]
    congr 1
    apply mapF_congr
    intro j _ _
    simp only [sumF, Nat.add_assoc]

theorem covers_p (hn : 1 ≤ n ∧ n ≤ 7) {code : List Int} (hcl : code.length ≤ 200) : ∀ (s p : List Int) (last : Int) (f : Nat), p ++ s = code → s.length < f → (∀ y ∈ p, 0 ≤ y ∧ y < ((2 ^ n : Nat) : Int) ∧ y ≤ last) →
    f59_p2 1000 n code f last p.length (mapF (fun x => (tm n p x : Int)) 0 (2 ^ n)) = some (if errC (2 ^ n) last s = 0 then .c1 (mapF (fun x => (tm n code x : Int)) 0 (2 ^ n)) else .c0 (errC (2 ^ n) last s)) := by
  intro s
  induction s with
  | nil =>
    intro p last f hp hf _
    obtain ⟨f, rfl⟩ : ∃ g, f = g + 1 := ⟨f - 1, by omega⟩
    rw [List.append_nil] at hp
    simp [f59_p2, ← hp, errC]
  | cons c s ih =>
    intro p last f hp hf hP
    have hpw := pw_le hn.2
    simp only [List.length_cons] at hf
    obtain ⟨f, rfl⟩ : ∃ g, f = g + 1 := ⟨f - 1, by omega⟩
    have hlt : ((p.length : Int) < ((code.length : Nat) : Int)) := by rw [← hp]; simp; omega
    have hat : at? code ((p.length : Nat) : Int) = some c := by rw [← hp]; exact at_mid p c s
    simp only [f59_p2, decide_eq_true hlt, if_true, hat, Option.bind_some]
    rw [shl_eq hn.2, Int.toNat_natCast]
    by_cases h1 : 0 ≤ c ∧ c < ((2 ^ n : Nat) : Int)
    · have q0 : ¬ c < 0 := by omega
      have q1 : ¬ c ≥ ((2 ^ n : Nat) : Int) := by omega
      rw [decide_eq_false q0, decide_eq_false q1, if_neg Bool.false_ne_true, if_neg Bool.false_ne_true]
      by_cases h2 : c ≤ last
      · rw [decide_eq_true h2, if_pos rfl, show errC (2 ^ n) last (c :: s) = 7 by simp only [errC]; rw [if_neg (by simpa using h1), if_pos h2]]; rfl
      · rw [decide_eq_false h2, if_neg Bool.false_ne_true, show errC (2 ^ n) last (c :: s) = errC (2 ^ n) c s by simp only [errC]; rw [if_neg (by simpa using h1), if_neg h2]]
        obtain ⟨c, rfl⟩ := Int.eq_ofNat_of_zero_le h1.1
        have hc : c < 2 ^ n := by omega
        have hni : (c : Int) ∉ p := fun q => by have := hP _ q; omega
        have ht := tm_le n p c
        simp only [Int.toNat_natCast, Nat.zero_add]
        rw [req_pos (by omega), mapF_get _ _ _ hc]
        simp only [Option.bind_some, Nat.zero_add]
        rw [req_pos (by rw [mapF_len]; exact hc), w64_nat (by omega), w64_nat (by omega), mapF_set _ _ _ hc]
        have e : mapF (fun j => if j = 0 + c then ((tm n p c + 1 : Nat) : Int) else (tm n p j : Int)) 0 (2 ^ n) = mapF (fun x => ((tm n p x + (if x = c then 1 else 0) : Nat) : Int)) 0 (2 ^ n) := by
          apply mapF_congr
          intro j _ _
          simp only [Nat.zero_add]
          by_cases q : j = c
          · rw [if_pos q, if_pos q, q]
          · rw [if_neg q, if_neg q, Nat.add_zero]
        have hcov := cov_p hn hc code ((p.length : Nat) : Int) n 0 1000 (fun x => tm n p x + (if x = c then 1 else 0)) (by omega) (by omega) (fun x => by have := tm_le n p x; split <;> omega)
        simp only [Int.natCast_zero] at hcov
        rw [e, hcov]
        simp only [Option.bind_some]
        have e2 : mapF (fun x => ((tm n p x + (if x = c then 1 else 0) + sumF (fun j => if x = flip c j then 1 else 0) 0 n : Nat) : Int)) 0 (2 ^ n) = mapF (fun x => (tm n (p ++ [(c : Int)]) x : Int)) 0 (2 ^ n) := by
          apply mapF_congr
          intro j _ hj
          rw [tm_snoc hn.2 hni hc (by omega), Nat.add_assoc]
          rfl
        rw [e2]
        have := ih (p ++ [(c : Int)]) (c : Int) f (by simpa using hp) (by omega) (fun y hy => by
          rcases List.mem_append.1 hy with hy | hy
          · have := hP y hy; omega
          · have : y = (c : Int) := by simpa using hy
            omega)
        simpa using this
    · rw [show errC (2 ^ n) last (c :: s) = 2 by simp only [errC]; rw [if_pos h1]]
      by_cases q0 : c < 0
      · rw [decide_eq_true q0]; rfl
      · have q1 : c ≥ ((2 ^ n : Nat) : Int) := by omega
        rw [decide_eq_false q0, decide_eq_true q1]; rfl
end

def chkC (n : Int) (code : List Int) : Int := if 1 ≤ n ∧ n ≤ 7 then errC (2 ^ n.toNat) (-1) code else 1

theorem tm_nil (n x : Nat) : tm n [] x = 0 := by
  have : ∀ m i, sumF (fun i => has [] (flip x i)) i m = 0 := by
    intro m
    induction m with
    | zero => intro i; rfl
    | succ m ih => intro i; simp only [sumF]; rw [ih]; simp [has]
  unfold tm; rw [this]; simp [has]

theorem f59_eq {code : List Int} (hcl : code.length ≤ 200) (n : Int) : f59 1000 n code = some (if chkC n code = 0 then (mapF (fun x => (tm n.toNat code x : Int)) 0 (2 ^ n.toNat), 0) else ([], chkC n code)) := by
  unfold f59 chkC
  rw [f74_eq]
  by_cases h : 1 ≤ n ∧ n ≤ 7
  · obtain ⟨n, rfl⟩ := Int.eq_ofNat_of_zero_le (show 0 ≤ n by omega)
    have hpw := pw_le (n := n) (by omega)
    have hc := covers_p (n := n) (by omega) hcl code [] (-1) 1000 rfl (by omega) (fun y hy => by cases hy)
    simp only [List.length_nil, Int.natCast_zero, tm_nil] at hc
    rw [← mapF_rep] at hc
    rw [decide_eq_true h, shl_eq (by omega)]
    simp only [Option.bind_some, if_true, Int.toNat_natCast, if_pos h]
    rw [req_pos (by omega), req_pos (by omega), hc]
    by_cases g : errC (2 ^ n) (-1) code = 0
    · rw [if_pos g, if_pos g]
      simp only [Option.bind_some]
      rw [req_pos (by rw [mapF_len]; omega)]
      have : List.take (0 + 2 ^ n) (mapF (fun x => (tm n code x : Int)) 0 (2 ^ n)) = mapF (fun x => (tm n code x : Int)) 0 (2 ^ n) := List.take_of_length_le (by rw [mapF_len]; omega)
      rw [this]
      rfl
    · rw [if_neg g, if_neg g]; rfl
  · rw [decide_eq_false h, if_neg h]
    rfl

theorem chk_rng {n : Int} {code : List Int} (h : chkC n code = 0) : 1 ≤ n ∧ n ≤ 7 ∧ errC (2 ^ n.toNat) (-1) code = 0 := by
  unfold chkC at h
  by_cases g : 1 ≤ n ∧ n ≤ 7
  · rw [if_pos g] at h; exact ⟨g.1, g.2, h⟩
  · rw [if_neg g] at h; cases h

section
variable {n : Nat}

/-- It is not covered. -/
def bareB (n : Nat) (code : List Int) (x : Nat) : Bool := decide (tm n code x = 0)

theorem bare_tab {g : Nat → Nat} {N : Nat} (hN : N ≤ 128) : ∀ (m x f : Nat) (out : List Int), m < f → x + m = N → out.length ≤ x →
    f17_p2 1000 (mapF (fun x => (g x : Int)) 0 N) f x out = some (out ++ filt (fun x => decide (g x = 0)) x m)
  | 0, x, f + 1, out, _, hi, _ => by
    have : ¬ (x : Int) < ((N : Nat) : Int) := by omega
    simp only [f17_p2, mapF_len, decide_eq_false this, Bool.false_eq_true, if_false, filt, List.append_nil]
  | m + 1, x, f + 1, out, hf, hi, ho => by
    have hlt : (x : Int) < ((N : Nat) : Int) := by omega
    have hat : at? (mapF (fun x => (g x : Int)) 0 N) (x : Int) = some (g x : Int) := by
      have := mapF_get (f := fun x => (g x : Int)) N 0 x (by omega)
      rw [Nat.zero_add] at this
      exact at_of this
    simp only [f17_p2, mapF_len, decide_eq_true hlt, if_true, hat, Option.bind_some, f17_p5_1, filt]
    rw [w64_nat (by omega)]
    by_cases q : g x = 0
    · rw [if_pos (by simpa using q), req_pos (by simp; omega)]
      simp only [Option.bind_some]
      rw [bare_tab hN m (x + 1) f _ (by omega) (by omega) (by simp; omega)]
      simp [q]
    · rw [if_neg (by simpa using q)]
      simp only [Option.bind_some]
      rw [bare_tab hN m (x + 1) f _ (by omega) (by omega) (by omega)]
      simp [q]

/- the plan of a code -/
def un (v i : Nat) : Nat := v % 2 ^ i + v / 2 ^ i * (2 * 2 ^ i)
def unB : Bool := (List.range 8).all fun n => (List.range n).all fun i => (List.range (2 ^ (n - 1))).all fun v =>
  decide (un v i < 2 ^ n) && (decide (bit (un v i) i = 0) && decide (seenN (un v i) i = v))
theorem unB_true : unB = true := by decide +kernel
theorem un_eq {n i v : Nat} (hn : n ≤ 7) (hi : i < n) (hv : v < 2 ^ (n - 1)) : un v i < 2 ^ n ∧ bit (un v i) i = 0 ∧ seenN (un v i) i = v := by
  have h1 := List.all_eq_true.1 unB_true n (by simp; omega)
  have h2 := List.all_eq_true.1 h1 i (by simpa using hi)
  have h3 := List.all_eq_true.1 h2 v (by simpa using hv)
  simp only [Bool.and_eq_true, decide_eq_true_eq] at h3
  exact h3
def unC : Bool := (List.range 8).all fun n => (List.range n).all fun i => (List.range (2 ^ n)).all fun c =>
  decide (c = if bit c i = 0 then un (seenN c i) i else flip (un (seenN c i) i) i)
theorem unC_true : unC = true := by decide +kernel
theorem un_seen {n i c : Nat} (hn : n ≤ 7) (hi : i < n) (hc : c < 2 ^ n) : c = if bit c i = 0 then un (seenN c i) i else flip (un (seenN c i) i) i := by
  have h1 := List.all_eq_true.1 unC_true n (by simp; omega)
  have h2 := List.all_eq_true.1 h1 i (by simpa using hi)
  have h3 := List.all_eq_true.1 h2 c (by simpa using hc)
  exact of_decide_eq_true h3

/-- What is said. -/
def fr (code : List Int) (i v : Nat) : Int :=
  if ((un v i : Nat) : Int) ∈ code ∧ ((flip (un v i) i : Nat) : Int) ∉ code then 1 else if ((flip (un v i) i : Nat) : Int) ∈ code ∧ ((un v i : Nat) : Int) ∉ code then 0 else 2
/-- What is said after a part of the code is looked at. -/
def frp (code p : List Int) (i v : Nat) : Int :=
  if ((un v i : Nat) : Int) ∈ p ∧ ((flip (un v i) i : Nat) : Int) ∉ code then 1 else if ((flip (un v i) i : Nat) : Int) ∈ p ∧ ((un v i : Nat) : Int) ∉ code then 0 else 2

theorem from_p (hn : 1 ≤ n ∧ n ≤ 7) {code : List Int} (hcl : code.length ≤ 200) (hco : ∀ y ∈ code, 0 ≤ y ∧ y < ((2 ^ n : Nat) : Int)) {i : Nat} (hi : i < n) (a : Int) (b : List (List Int)) :
    ∀ (s p : List Int) (f : Nat), p ++ s = code → s.length < f →
    f19_p6_2 1000 n code i 0 (2 ^ (n - 1)) a b f p.length (mapF (frp code p i) 0 (2 ^ (n - 1))) = some (mapF (fr code i) 0 (2 ^ (n - 1))) := by
  intro s
  induction s with
  | nil =>
    intro p f hp hf
    obtain ⟨f, rfl⟩ : ∃ g, f = g + 1 := ⟨f - 1, by omega⟩
    rw [List.append_nil] at hp
    subst hp
    simp [f19_p6_2]
    rfl
  | cons c s ih =>
    intro p f hp hf
    have hpw := pw_le hn.2
    simp only [List.length_cons] at hf
    obtain ⟨f, rfl⟩ : ∃ g, f = g + 1 := ⟨f - 1, by omega⟩
    have hlt : ((p.length : Int) < ((code.length : Nat) : Int)) := by rw [← hp]; simp; omega
    have hat : at? code ((p.length : Nat) : Int) = some c := by rw [← hp]; exact at_mid p c s
    have hcm : c ∈ code := by rw [← hp]; simp
    have hpm : ∀ y ∈ p, y ∈ code := fun y hy => by rw [← hp]; simp [hy]
    have hc0 := hco c hcm
    obtain ⟨c, rfl⟩ := Int.eq_ofNat_of_zero_le hc0.1
    have hc : c < 2 ^ n := by omega
    have hnext := ih (p ++ [(c : Int)]) f (by simpa using hp) (by omega)
    simp only [f19_p6_2, decide_eq_true hlt, if_true, hat, Option.bind_some]
    rw [arX (by omega) (by omega), f36_eq (by omega), req_pos (by omega), w64_nat (by omega)]
    simp only [Option.bind_some, f19_p9_5]
    have hus := un_seen hn.2 hi hc
    have hsl := (rg hn.2 hi hc).1
    have hff := (rg hn.2 hi hc).2.2.1
    by_cases g : ((flip c i : Nat) : Int) ∈ code
    · rw [decide_eq_true g, if_pos rfl]
      simp only [Option.bind_some]
      have e : mapF (frp code p i) 0 (2 ^ (n - 1)) = mapF (frp code (p ++ [(c : Int)]) i) 0 (2 ^ (n - 1)) := by
        apply mapF_congr
        intro v _ hv
        obtain ⟨u1, u2, u3⟩ := un_eq hn.2 hi (show v < 2 ^ (n - 1) by omega)
        have k1 : ((un v i : Nat) : Int) ∈ p ∧ ((flip (un v i) i : Nat) : Int) ∉ code ↔ ((un v i : Nat) : Int) ∈ p ++ [(c : Int)] ∧ ((flip (un v i) i : Nat) : Int) ∉ code := by
          constructor
          · rintro ⟨q1, q2⟩; exact ⟨by simp [q1], q2⟩
          · rintro ⟨q1, q2⟩
            rcases List.mem_append.1 q1 with q1 | q1
            · exact ⟨q1, q2⟩
            · have : ((un v i : Nat) : Int) = (c : Int) := by simpa using q1
              have : un v i = c := by omega
              rw [this] at q2; exact absurd g q2
        have k2 : ((flip (un v i) i : Nat) : Int) ∈ p ∧ ((un v i : Nat) : Int) ∉ code ↔ ((flip (un v i) i : Nat) : Int) ∈ p ++ [(c : Int)] ∧ ((un v i : Nat) : Int) ∉ code := by
          constructor
          · rintro ⟨q1, q2⟩; exact ⟨by simp [q1], q2⟩
          · rintro ⟨q1, q2⟩
            rcases List.mem_append.1 q1 with q1 | q1
            · exact ⟨q1, q2⟩
            · have : ((flip (un v i) i : Nat) : Int) = (c : Int) := by simpa using q1
              have : flip (un v i) i = c := by omega
              have h3 := (rg hn.2 hi u1).2.2.1
              rw [this] at h3
              rw [h3] at g; exact absurd g q2
        unfold frp
        simp only [k1, k2]
      rw [e]
      simpa using hnext
    · rw [decide_eq_false g, if_neg Bool.false_ne_true, ar64 (by omega) (by omega)]
      simp only [Option.bind_some]
      rw [req_pos (by omega), req_pos (by omega)]
      simp only [Int.toNat_natCast, Nat.zero_add]
      rw [req_pos (by rw [mapF_len]; exact hsl)]
      simp only [Option.bind_some]
      rw [arB (by omega) (by omega), w64_in (by have := bit_le c i; omega), mapF_set _ _ _ hsl]
      have e : mapF (fun j => if j = 0 + seenN c i then 1 - (bit c i : Int) else frp code p i j) 0 (2 ^ (n - 1)) = mapF (frp code (p ++ [(c : Int)]) i) 0 (2 ^ (n - 1)) := by
        apply mapF_congr
        intro v _ hv
        simp only [Nat.zero_add]
        obtain ⟨u1, u2, u3⟩ := un_eq hn.2 hi (show v < 2 ^ (n - 1) by omega)
        have h3 := (rg hn.2 hi u1).2.2.1
        by_cases q : v = seenN c i
        · rw [if_pos q]
          rw [← q] at hus
          unfold frp
          by_cases hb : bit c i = 0
          · rw [if_pos hb] at hus
            rw [← hus, if_pos ⟨by simp, g⟩, hb]; rfl
          · rw [if_neg hb] at hus
            have hb1 : bit c i = 1 := by have := bit_le c i; omega
            have hu : un v i = flip c i := by rw [hus, h3]
            rw [← hus, hu, if_neg (fun z => z.2 hcm), if_pos ⟨by simp, g⟩, hb1]; rfl
        · rw [if_neg q]
          have n1 : un v i ≠ c := fun z => q (by rw [← z, u3])
          have n2 : flip (un v i) i ≠ c := fun z => q (by rw [← z, (rg hn.2 hi u1).2.2.2.1, u3])
          have k1 : ((un v i : Nat) : Int) ∈ p ↔ ((un v i : Nat) : Int) ∈ p ++ [(c : Int)] := by
            simp; intro z; omega
          have k2 : ((flip (un v i) i : Nat) : Int) ∈ p ↔ ((flip (un v i) i : Nat) : Int) ∈ p ++ [(c : Int)] := by
            simp; intro z; omega
          unfold frp
          simp only [k1, k2]
      rw [e]
      simpa using hnext

theorem f57_eq {k : Nat} (hk : k ≤ 6) : f57 1000 ([2] : List Int) ((2 ^ k : Nat) : Int) = some (0, 2 ^ k, List.replicate (2 ^ k) 2) := by
  have : ∀ k ∈ List.range 7, f57 1000 ([2] : List Int) ((2 ^ k : Nat) : Int) = some (0, 2 ^ k, List.replicate (2 ^ k) 2) := by decide +kernel
  exact this k (by simp; omega)

/-- The lists of a plan. -/
def frs (code : List Int) (N : Nat) : Nat → Nat → List (List Int)
  | _, 0 => []
  | i, m + 1 => mapF (fr code i) 0 N :: frs code N (i + 1) m
theorem frs_len (code : List Int) (N : Nat) : ∀ m i, (frs code N i m).length = m
  | 0, _ => rfl
  | m + 1, i => by simp [frs, frs_len code N m (i + 1)]
theorem frs_mem {code : List Int} {N : Nat} {x : List Int} : ∀ m i, x ∈ frs code N i m → ∃ j, i ≤ j ∧ j < i + m ∧ x = mapF (fr code j) 0 N
  | 0, _, h => by cases h
  | m + 1, i, h => by
    simp only [frs, List.mem_cons] at h
    rcases h with rfl | h
    · exact ⟨i, by omega, by omega, rfl⟩
    · obtain ⟨j, h1, h2, h3⟩ := frs_mem m (i + 1) h
      exact ⟨j, by omega, by omega, h3⟩
theorem frs_get (code : List Int) (N : Nat) : ∀ m i k, k < m → (frs code N i m)[k]? = some (mapF (fr code (i + k)) 0 N)
  | m + 1, i, 0, _ => by simp [frs]
  | m + 1, i, k + 1, h => by
    simp only [frs, List.getElem?_cons_succ]
    rw [frs_get code N m (i + 1) k (by omega), show i + 1 + k = i + (k + 1) by omega]

theorem plan_p (hn : 1 ≤ n ∧ n ≤ 7) {code : List Int} (hcl : code.length ≤ 200) (hco : ∀ y ∈ code, 0 ≤ y ∧ y < ((2 ^ n : Nat) : Int)) (a : Int) : ∀ (m i f : Nat) (out : List (List Int)), m < f → i + m = n → out.length ≤ i →
    f19_p2 1000 n code f i a out = some (a, out ++ frs code (2 ^ (n - 1)) i m)
  | 0, i, f + 1, out, _, hi, _ => by
    have : ¬ (i : Int) < (n : Int) := by omega
    simp [f19_p2, this, frs]
  | m + 1, i, f + 1, out, hf, hi, ho => by
    have hlt : (i : Int) < (n : Int) := by omega
    have e1 : w64 ((n : Int) - 1) = ((n - 1 : Nat) : Int) := by rw [w64_in (by omega)]; omega
    have e2 : List.replicate (2 ^ (n - 1)) (2 : Int) = mapF (frp code [] i) 0 (2 ^ (n - 1)) := by
      rw [mapF_rep _ _ 0]
      apply mapF_congr
      intro v _ _
      simp [frp]
    have h6 := from_p hn hcl hco (show i < n by omega) a out code [] 1000 rfl (by omega)
    simp only [List.length_nil, Int.natCast_zero] at h6
    simp only [f19_p2, decide_eq_true hlt, if_true, e1]
    rw [req_pos (by omega), shl_eq (by omega), f57_eq (by omega)]
    simp only [Option.bind_some]
    rw [e2, h6]
    simp only [Option.bind_some, Nat.zero_add, List.drop_zero]
    rw [req_pos (by rw [mapF_len]; omega), List.take_of_length_le (by rw [mapF_len]; omega), req_pos (by simp; omega), w64_nat (by omega), plan_p hn hcl hco a m (i + 1) f _ (by omega) (by omega) (by simp; omega)]
    simp [frs]

theorem err_mem {N : Nat} : ∀ {l : List Int} {last : Int}, errC N last l = 0 → ∀ y ∈ l, 0 ≤ y ∧ y < (N : Int)
  | [], _, _, y, hy => by cases hy
  | c :: s, last, h, y, hy => by
    simp only [errC] at h
    by_cases h1 : ¬ (0 ≤ c ∧ c < (N : Int))
    · rw [if_pos h1] at h; cases h
    · rw [if_neg h1] at h
      by_cases h2 : c ≤ last
      · rw [if_pos h2] at h; cases h
      · rw [if_neg h2] at h
        rcases List.mem_cons.1 hy with rfl | hy
        · exact Decidable.not_not.1 h1
        · exact err_mem h y hy

theorem f19_eq {code : List Int} (hcl : code.length ≤ 200) (n : Int) : f19 1000 n code = some (if chkC n code = 0 then (n, frs code (2 ^ (n.toNat - 1)) 0 n.toNat, 0) else (0, [], chkC n code)) := by
  unfold f19
  rw [f59_eq hcl]
  by_cases h : chkC n code = 0
  · obtain ⟨h1, h2, h3⟩ := chk_rng h
    rw [if_pos h, if_pos h]
    obtain ⟨n, rfl⟩ := Int.eq_ofNat_of_zero_le (show 0 ≤ n by omega)
    simp only [Int.toNat_natCast] at h3 ⊢
    have hp := plan_p (n := n) (by omega) hcl (err_mem h3) (n : Int) n 0 1000 [] (by omega) (by omega) (by simp)
    simp only [Int.natCast_zero, List.nil_append] at hp
    simp only [Option.bind_some, bne_self_eq_false, Bool.false_eq_true, if_false]
    rw [hp]
    simp only [Option.bind_some, take0]
  · rw [if_neg h, if_neg h]
    simp [h]

/- the reference's plan -/
/-- What is said after a part of the colourings is looked at. -/
def frk (code : List Int) (i k v : Nat) : Int := if un v i < k then fr code i v else 0

end

theorem f15_eq {code : List Int} (hcl : code.length ≤ 200) (n : Int) : f15 1000 n code = some (if chkC n code = 0 then (mapF (fun x => (tm n.toNat code x : Int)) 0 (2 ^ n.toNat), 0) else ([], chkC n code)) := by
  unfold f15
  rw [f59_eq hcl]; rfl

theorem f17_eq {code : List Int} (hcl : code.length ≤ 200) (n : Int) : f17 1000 n code = some (if chkC n code = 0 then (filt (bareB n.toNat code) 0 (2 ^ n.toNat), 0) else ([], chkC n code)) := by
  unfold f17
  rw [f59_eq hcl]
  by_cases h : chkC n code = 0
  · obtain ⟨h1, h2, _⟩ := chk_rng h
    have hp := pw_le (n := n.toNat) (by omega)
    rw [if_pos h, if_pos h]
    have := bare_tab (g := tm n.toNat code) (N := 2 ^ n.toNat) hp.2 (2 ^ n.toNat) 0 1000 [] (by omega) (by omega) (by simp)
    simp only [Int.natCast_zero, List.nil_append] at this
    simp only [Option.bind_some, bne_self_eq_false, Bool.false_eq_true, if_false]
    rw [this]
    simp only [Option.bind_some, take0]
    rfl
  · rw [if_neg h, if_neg h]
    simp [h]

end Go.Gh.Hat
