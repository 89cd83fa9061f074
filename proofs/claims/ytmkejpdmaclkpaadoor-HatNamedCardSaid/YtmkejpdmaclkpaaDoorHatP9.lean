/- The plain law of HatPlays. -/
import Derived.Test.YtmkejpdmaclkpaaDoorHatS
namespace Go.Gh.Hat
set_option linter.unusedVariables false
set_option linter.unusedSimpArgs false

def badB (x : Int) : Bool := decide (x < 0 ∨ 2 < x)
def errS (m : Nat) : List (List Int) → Int
  | [] => 0
  | l :: s => if l.length ≠ m then 5 else if l.any badB = true then 1 else errS m s
def chkS (n : Int) (s : List (List Int)) : Int :=
  if 1 ≤ n ∧ n ≤ 7 then if (s.length : Int) = n then errS (2 ^ (n.toNat - 1)) s else 5 else 1

/-- A plan that is played. -/
structure VP (n : Nat) (s : List (List Int)) : Prop where
  rng : 1 ≤ n ∧ n ≤ 7
  len : s.length = n
  each : ∀ l ∈ s, l.length = 2 ^ (n - 1) ∧ ∀ x ∈ l, 0 ≤ x ∧ x ≤ 2

theorem errS_zero {m : Nat} : ∀ {s : List (List Int)}, errS m s = 0 → ∀ l ∈ s, l.length = m ∧ ∀ x ∈ l, 0 ≤ x ∧ x ≤ 2
  | [], _, l, hl => by cases hl
  | y :: s, h, l, hl => by
    simp only [errS] at h
    by_cases h1 : y.length ≠ m
    · rw [if_pos h1] at h; cases h
    · rw [if_neg h1] at h
      by_cases h2 : y.any badB = true
      · rw [if_pos h2] at h; cases h
      · rw [if_neg h2] at h
        rcases List.mem_cons.1 hl with rfl | hl
        · refine ⟨by omega, fun x hx => ?_⟩
          have : badB x = false := by
            cases e : badB x with
            | false => rfl
            | true => exact absurd (List.any_eq_true.2 ⟨x, hx, e⟩) h2
          simp [badB] at this
          omega
        · exact errS_zero h l hl
theorem errS_of {m : Nat} : ∀ {s : List (List Int)}, (∀ l ∈ s, l.length = m ∧ ∀ x ∈ l, 0 ≤ x ∧ x ≤ 2) → errS m s = 0
  | [], _ => rfl
  | y :: s, h => by
    have h1 := h y (List.mem_cons_self ..)
    have h2 : ¬ y.any badB = true := by
      rw [List.any_eq_true]
      rintro ⟨x, hx, e⟩
      have := h1.2 x hx
      simp [badB] at e
      omega
    simp only [errS]
    rw [if_neg (by simp [h1.1]), if_neg h2]
    exact errS_of fun l hl => h l (List.mem_cons_of_mem _ hl)
theorem chk_zero {n : Int} {s : List (List Int)} (h : chkS n s = 0) : VP n.toNat s ∧ n = (n.toNat : Int) := by
  unfold chkS at h
  by_cases h1 : 1 ≤ n ∧ n ≤ 7
  · rw [if_pos h1] at h
    by_cases h2 : (s.length : Int) = n
    · rw [if_pos h2] at h
      exact ⟨⟨by omega, by omega, errS_zero h⟩, by omega⟩
    · rw [if_neg h2] at h; cases h
  · rw [if_neg h1] at h; cases h
theorem VP.chk {n : Nat} {s : List (List Int)} (v : VP n s) : chkS n s = 0 := by
  have hr := v.rng
  have hl := v.len
  unfold chkS
  rw [if_pos (by omega), if_pos (by omega), Int.toNat_natCast]
  exact errS_of v.each

theorem f91_eq {l : List Int} (hl : l.length ≤ 900) : f91 1000 l = some (l.any badB) := by
  have key : ∀ (s p : List Int) (f : Nat), p ++ s = l → s.length < f → ∃ r, f108_p1 1000 l f p.length = some r ∧ ((s.any badB = true ∧ ∃ i : Nat, r = .c0 i) ∨ (s.any badB = false ∧ r = .c1)) := by
    intro s
    induction s with
    | nil =>
      intro p f hp hf
      obtain ⟨f, rfl⟩ : ∃ g, f = g + 1 := ⟨f - 1, by omega⟩
      rw [List.append_nil] at hp
      exact ⟨.c1, by simp [f108_p1, ← hp], .inr ⟨rfl, rfl⟩⟩
    | cons x s ih =>
      intro p f hp hf
      simp only [List.length_cons] at hf
      obtain ⟨f, rfl⟩ : ∃ g, f = g + 1 := ⟨f - 1, by omega⟩
      have hlt : ((p.length : Int) < ((l.length : Nat) : Int)) := by rw [← hp]; simp; omega
      have hat : at? l ((p.length : Nat) : Int) = some x := by rw [← hp]; exact at_mid p x s
      have e92 : f92 1000 x = some (badB x) := by
        unfold f92 badB
        by_cases h : x < 0 <;> simp [h]
      simp only [f108_p1, decide_eq_true hlt, if_true, hat, Option.bind_some, e92]
      by_cases h : badB x = true
      · rw [if_pos h]
        exact ⟨_, rfl, .inl ⟨by simp [h], _, rfl⟩⟩
      · rw [if_neg h, w64_nat (by omega)]
        obtain ⟨r, h1, h2⟩ := ih (p ++ [x]) f (by simpa using hp) (by omega)
        refine ⟨r, by simpa using h1, ?_⟩
        simp only [List.any_cons, h, Bool.false_or]
        exact h2
  obtain ⟨r, h1, h2⟩ := key l [] 1000 rfl (by omega)
  simp only [List.length_nil, Int.natCast_zero] at h1
  unfold f91 f108
  rw [h1]
  rcases h2 with ⟨h2, i, rfl⟩ | ⟨h2, rfl⟩
  · simp [h2]
  · simp [h2]

/-- Lists that are looked at. -/
def Sm (s : List (List Int)) : Prop := s.length ≤ 30 ∧ ∀ l ∈ s, l.length ≤ 100

theorem p4_eq {n : Nat} (hn : 1 ≤ n ∧ n ≤ 7) {xs : List (List Int)} (hs : Sm xs) (a b : Int) : ∀ (s p : List (List Int)) (f : Nat), p ++ s = xs → s.length < f →
    f78_p4 1000 xs n f p.length a b = some (if errS (2 ^ (n - 1)) s = 0 then .c1 a b else .c0 (errS (2 ^ (n - 1)) s)) := by
  intro s
  have hx := hs.1
  induction s with
  | nil =>
    intro p f hp hf
    obtain ⟨f, rfl⟩ : ∃ g, f = g + 1 := ⟨f - 1, by omega⟩
    rw [List.append_nil] at hp
    simp [f78_p4, ← hp, errS]
  | cons x s ih =>
    intro p f hp hf
    simp only [List.length_cons] at hf
    obtain ⟨f, rfl⟩ : ∃ g, f = g + 1 := ⟨f - 1, by omega⟩
    have hlt : ((p.length : Int) < ((xs.length : Nat) : Int)) := by rw [← hp]; simp; omega
    have hat : at? xs ((p.length : Nat) : Int) = some x := by rw [← hp]; exact at_mid p x s
    have hxl := hs.2 x (by rw [← hp]; simp)
    have e2 : 2 ^ n = 2 * 2 ^ (n - 1) := by
      obtain ⟨m, rfl⟩ : ∃ m, n = m + 1 := ⟨n - 1, by omega⟩
      rw [Nat.pow_succ, Nat.add_sub_cancel]; omega
    simp only [f78_p4, decide_eq_true hlt, if_true, hat, Option.bind_some]
    rw [w64_in (by omega), shl_eq (by omega), e2]
    generalize 2 ^ (n - 1) = M at *
    by_cases h1 : x.length ≠ M
    · have q : ¬ (2 * (x.length : Int)) = ((2 * M : Nat) : Int) := by omega
      rw [if_pos (by simpa using q), show errS M (x :: s) = 5 by simp [errS, h1]]; rfl
    · have q : (2 * (x.length : Int)) = ((2 * M : Nat) : Int) := by omega
      rw [if_neg (by simp [q]), f91_eq (by omega)]
      simp only [Option.bind_some]
      by_cases h2 : x.any badB = true
      · rw [if_pos h2, show errS M (x :: s) = 1 by simp only [errS]; rw [if_neg h1, if_pos h2]]; rfl
      · rw [if_neg h2, show errS M (x :: s) = errS M s by simp only [errS]; rw [if_neg h1, if_neg h2], w64_nat (by omega)]
        have := ih (p ++ [x]) f (by simpa using hp) (by omega)
        simpa using this

theorem f78_eq {s : List (List Int)} (hs : Sm s) (n : Int) : f78 1000 n s = some (if chkS n s = 0 then (n, s, ((2 ^ n.toNat : Nat) : Int), 0) else (0, [], 0, chkS n s)) := by
  have hx := hs.1
  unfold f78 chkS
  rw [f74_eq]
  by_cases h1 : 1 ≤ n ∧ n ≤ 7
  · obtain ⟨m, rfl⟩ := Int.eq_ofNat_of_zero_le (show 0 ≤ n by omega)
    simp only [h1, and_self, decide_true, Option.bind_some, if_true, Int.toNat_natCast]
    by_cases h2 : (s.length : Int) = (m : Int)
    · rw [if_neg (by simpa using h2), if_pos h2, req_pos (by omega)]
      have := p4_eq (n := m) (by omega) hs 0 0 s [] 1000 rfl (by omega)
      simp only [List.length_nil, Int.natCast_zero] at this
      rw [this]
      by_cases h3 : errS (2 ^ (m - 1)) s = 0
      · simp [h3, shl_eq (show m ≤ 7 by omega)]
      · simp [h3]
    · rw [if_pos (by simpa using h2), if_neg h2]; rfl
  · simp [h1]

/-- What a helper says. -/
def sv (s : List (List Int)) (c i : Nat) : Int := ((s[i]?).getD [])[seenN c i]?.getD 0

section
variable {n : Nat} {s : List (List Int)}

theorem VP.at (v : VP n s) {c i : Nat} (hi : i < n) (hc : c < 2 ^ n) : ∃ l, at? s ((i : Nat) : Int) = some l ∧ at? l ((seenN c i : Nat) : Int) = some (sv s c i) ∧ 0 ≤ sv s c i ∧ sv s c i ≤ 2 := by
  have hr := v.rng
  have hl := v.len
  have hg := (rg hr.2 hi hc).1
  have e1 : s[i]? = some s[i] := List.getElem?_eq_getElem (by omega)
  have hm := v.each s[i] (List.getElem_mem _)
  have e2 : (s[i])[seenN c i]? = some (s[i])[seenN c i] := List.getElem?_eq_getElem (by omega)
  have e3 : sv s c i = (s[i])[seenN c i] := by unfold sv; rw [e1, Option.getD_some, e2, Option.getD_some]
  have := hm.2 _ (List.getElem_mem (h := show seenN c i < (s[i]).length by omega))
  exact ⟨s[i], at_of e1, by rw [e3]; exact at_of e2, by rw [e3]; exact this.1, by rw [e3]; exact this.2⟩

theorem VP.c128 (v : VP n s) {c : Nat} (hc : c < 2 ^ n) : c < 128 := by
  have := pw_le v.rng.2
  omega

theorem say_p (v : VP n s) {c : Nat} (hc : c < 2 ^ n) : ∀ (m i f : Nat) (out : List Int), m < f → i + m = n → out.length ≤ i →
    f39_p4 1000 c s f i out = some (out ++ mapF (sv s c) i m)
  | 0, i, f + 1, out, _, hi, _ => by
    have : ¬ (i : Int) < ((s.length : Nat) : Int) := by have := v.len; omega
    simp [f39_p4, this, mapF]
  | m + 1, i, f + 1, out, hf, hi, ho => by
    have hr := v.rng
    have hlt : (i : Int) < ((s.length : Nat) : Int) := by have := v.len; omega
    obtain ⟨l, h1, h2, _⟩ := v.at (i := i) (by omega) hc
    simp only [f39_p4, decide_eq_true hlt, if_true, h1, Option.bind_some]
    rw [ar64 (by omega) (v.c128 hc)]
    simp only [Option.bind_some, h2]
    rw [req_pos (by simp; omega), w64_nat (by omega), say_p v hc m (i + 1) f _ (by omega) (by omega) (by simp; omega)]
    simp [mapF]

/-- Right, and wrong. -/
def rt (s : List (List Int)) (c i : Nat) : Nat := if sv s c i = (bit c i : Int) then 1 else 0
def wr (s : List (List Int)) (c i : Nat) : Nat := if sv s c i ≠ 2 ∧ sv s c i ≠ (bit c i : Int) then 1 else 0
def R (s : List (List Int)) (n c : Nat) : Nat := sumF (rt s c) 0 n
def Wn (s : List (List Int)) (n c : Nat) : Nat := sumF (wr s c) 0 n

theorem named_p (v : VP n s) {c : Nat} (hc : c < 2 ^ n) (x3 : Int) : ∀ (m i f r w : Nat), m < f → i + m = n → r ≤ i → w ≤ i →
    f79_p1 1000 c n s x3 f r w i = some (((r + sumF (rt s c) i m : Nat) : Int), ((w + sumF (wr s c) i m : Nat) : Int))
  | 0, i, f + 1, r, w, _, hi, _, _ => by
    have : ¬ (i : Int) < (n : Int) := by omega
    simp [f79_p1, this, sumF]
  | m + 1, i, f + 1, r, w, hf, hi, h1, h2 => by
    have hr := v.rng
    have hlt : (i : Int) < (n : Int) := by omega
    obtain ⟨l, g1, g2, _⟩ := v.at (i := i) (by omega) hc
    have hb := bit_le c i
    simp only [f79_p1, decide_eq_true hlt, if_true, g1, Option.bind_some]
    rw [ar64 (by omega) (v.c128 hc)]
    simp only [Option.bind_some, g2, f79_p5, f79_p6, sumF]
    by_cases q1 : sv s c i = 2
    · have e1 : rt s c i = 0 := by unfold rt; rw [if_neg (by omega)]
      have e2 : wr s c i = 0 := by unfold wr; rw [if_neg (by simp [q1])]
      rw [if_pos (by simpa using q1)]
      simp only [Option.bind_some]
      rw [w64_nat (by omega), named_p v hc x3 m (i + 1) f r w (by omega) (by omega) (by omega) (by omega), e1, e2, Nat.zero_add, Nat.zero_add]
    · rw [if_neg (by simpa using q1), req_pos (by omega), arB (by omega) (v.c128 hc)]
      by_cases q2 : sv s c i = (bit c i : Int)
      · have e1 : rt s c i = 1 := by unfold rt; rw [if_pos q2]
        have e2 : wr s c i = 0 := by unfold wr; rw [if_neg (by simp [q2])]
        rw [if_pos (by simpa using q2)]
        simp only [Option.bind_some]
        rw [w64_nat (n := r) (by omega), w64_nat (by omega), named_p v hc x3 m (i + 1) f (r + 1) w (by omega) (by omega) (by omega) (by omega), e1, e2, Nat.zero_add, Nat.add_assoc]
      · have e1 : rt s c i = 0 := by unfold rt; rw [if_neg q2]
        have e2 : wr s c i = 1 := by unfold wr; rw [if_pos ⟨q1, q2⟩]
        rw [if_neg (by simpa using q2)]
        simp only [Option.bind_some]
        rw [w64_nat (n := w) (by omega), w64_nat (by omega), named_p v hc x3 m (i + 1) f r (w + 1) (by omega) (by omega) (by omega) (by omega), e1, e2, Nat.zero_add, Nat.add_assoc]

theorem f79_eq (v : VP n s) {c : Nat} (hc : c < 2 ^ n) (x3 : Int) : f79 1000 n s x3 c = some ((R s n c : Int), (Wn s n c : Int)) := by
  have hr := v.rng
  have := named_p v hc x3 n 0 1000 0 0 (by omega) (by omega) (by omega) (by omega)
  simp only [Int.natCast_zero, Nat.zero_add] at this
  unfold f79
  rw [this]; rfl

/-- It is won. -/
def won (s : List (List Int)) (n c : Nat) : Bool := decide (0 < R s n c) && decide (Wn s n c = 0)

theorem wins_p (v : VP n s) : ∀ (m c f : Nat) (out : List Int), m < f → c + m = 2 ^ n → out.length ≤ c →
    f32_p2 1000 ((2 ^ n : Nat) : Int) n s f c out = some (out ++ filt (won s n) c m)
  | 0, c, f + 1, out, _, hi, _ => by
    have : ¬ (c : Int) < ((2 ^ n : Nat) : Int) := by omega
    simp only [f32_p2, decide_eq_false this, Bool.false_eq_true, if_false, filt, List.append_nil]
  | m + 1, c, f + 1, out, hf, hi, ho => by
    have hp := pw_le v.rng.2
    have hlt : (c : Int) < ((2 ^ n : Nat) : Int) := by omega
    simp only [f32_p2, decide_eq_true hlt, if_true]
    rw [f79_eq v (by omega)]
    simp only [Option.bind_some, f32_p5_1, filt]
    rw [w64_nat (by omega)]
    by_cases g1 : 0 < R s n c
    · rw [if_pos (by simpa using g1)]
      by_cases g2 : Wn s n c = 0
      · have e : won s n c = true := by simp [won, g1, g2]
        rw [if_pos (by simpa using g2), req_pos (by simp; omega)]
        simp only [Option.bind_some]
        rw [wins_p v m (c + 1) f _ (by omega) (by omega) (by simp; omega), e]
        simp
      · have e : ¬ won s n c = true := by simp [won, g2]
        rw [if_neg (by simpa using g2)]
        simp only [Option.bind_some]
        rw [wins_p v m (c + 1) f _ (by omega) (by omega) (by omega), if_neg e]
        simp
    · have e : ¬ won s n c = true := by simp [won, g1]
      rw [if_neg (by simpa using g1), wins_p v m (c + 1) f _ (by omega) (by omega) (by omega), if_neg e]
      simp

theorem R_le (s : List (List Int)) (n c : Nat) : R s n c ≤ n := by
  have := sumF_le (f := rt s c) (B := 1) (fun i => by unfold rt; split <;> omega) n 0
  unfold R; omega
theorem Wn_le (s : List (List Int)) (n c : Nat) : Wn s n c ≤ n := by
  have := sumF_le (f := wr s c) (B := 1) (fun i => by unfold wr; split <;> omega) n 0
  unfold Wn; omega

theorem guess_p (v : VP n s) : ∀ (m c f r w : Nat), m < f → c + m = 2 ^ n → r ≤ 7 * c → w ≤ 7 * c →
    f37_p2 1000 ((2 ^ n : Nat) : Int) n s f r w c = some (((r + sumF (R s n) c m : Nat) : Int), ((w + sumF (Wn s n) c m : Nat) : Int))
  | 0, c, f + 1, r, w, _, hi, _, _ => by
    have : ¬ (c : Int) < ((2 ^ n : Nat) : Int) := by omega
    simp only [f37_p2, decide_eq_false this, Bool.false_eq_true, if_false, sumF, Nat.add_zero]
  | m + 1, c, f + 1, r, w, hf, hi, h1, h2 => by
    have hp := pw_le v.rng.2
    have hr := v.rng
    have b1 := R_le s n c
    have b2 := Wn_le s n c
    have hlt : (c : Int) < ((2 ^ n : Nat) : Int) := by omega
    simp only [f37_p2, decide_eq_true hlt, if_true]
    rw [f79_eq v (by omega)]
    simp only [Option.bind_some, sumF]
    rw [w64_nat (by omega), w64_in (n := (r : Int) + (R s n c : Int)) (by omega), w64_in (n := (w : Int) + (Wn s n c : Int)) (by omega), ← Int.natCast_add, ← Int.natCast_add]
    rw [guess_p v m (c + 1) f _ _ (by omega) (by omega) (by omega) (by omega), Nat.add_assoc, Nat.add_assoc]

end

theorem VP.sm {n : Nat} {s : List (List Int)} (v : VP n s) : Sm s := by
  have hr := v.rng
  have hl := v.len
  have hp := pw_le (n := n - 1) (by omega)
  have : 2 ^ (n - 1) ≤ 64 := by
    have h : ∀ n ∈ List.range 7, 2 ^ n ≤ 64 := by decide +kernel
    exact h (n - 1) (by simp; omega)
  exact ⟨by omega, fun l hm => by have := (v.each l hm).1; omega⟩

/-- The program's answers about a plan. -/
theorem f39_eq {n : Nat} {s : List (List Int)} (v : VP n s) {c : Nat} (hc : c < 2 ^ n) : f39 1000 n s c = some (mapF (sv s c) 0 n, 0) := by
  have hr := v.rng
  unfold f39
  rw [f78_eq v.sm, if_pos v.chk]
  simp only [Option.bind_some, bne_self_eq_false, Bool.false_eq_true, if_false, Int.toNat_natCast]
  have q0 : ¬ (c : Int) < 0 := by omega
  have q1 : ¬ (c : Int) ≥ ((2 ^ n : Nat) : Int) := by omega
  rw [decide_eq_false q0, decide_eq_false q1, if_neg Bool.false_ne_true, if_neg Bool.false_ne_true]
  have := say_p v hc n 0 1000 [] (by omega) (by omega) (by simp)
  simp only [Int.natCast_zero, List.nil_append] at this
  rw [this]
  simp only [Option.bind_some, take0]
theorem f32_eq {n : Nat} {s : List (List Int)} (v : VP n s) : f32 1000 n s = some (filt (won s n) 0 (2 ^ n), 0) := by
  have hp := pw_le v.rng.2
  unfold f32
  rw [f78_eq v.sm, if_pos v.chk]
  simp only [Option.bind_some, bne_self_eq_false, Bool.false_eq_true, if_false, Int.toNat_natCast]
  have := wins_p v (2 ^ n) 0 1000 [] (by omega) (by omega) (by simp)
  simp only [Int.natCast_zero, List.nil_append] at this
  rw [this]
  simp only [Option.bind_some, take0]
theorem f37_eq {n : Nat} {s : List (List Int)} (v : VP n s) : f37 1000 n s = some (((sumF (R s n) 0 (2 ^ n) : Nat) : Int), ((sumF (Wn s n) 0 (2 ^ n) : Nat) : Int), 0) := by
  have hp := pw_le v.rng.2
  unfold f37
  rw [f78_eq v.sm, if_pos v.chk]
  simp only [Option.bind_some, bne_self_eq_false, Bool.false_eq_true, if_false, Int.toNat_natCast]
  have := guess_p v (2 ^ n) 0 1000 0 0 (by omega) (by omega) (by omega) (by omega)
  simp only [Int.natCast_zero, Nat.zero_add] at this
  rw [this]; rfl
theorem f40_eq {n : Nat} (hn : 1 ≤ n ∧ n ≤ 7) {c i : Nat} (hc : c < 2 ^ n) (hi : i < n) : f40 1000 n c i = some ((seenN c i : Int), 0) := by
  have hp := pw_le hn.2
  unfold f40
  rw [f74_eq, shl_eq hn.2]
  simp only [Option.bind_some]
  have q0 : ¬ (c : Int) < 0 := by omega
  have q1 : ¬ (c : Int) ≥ ((2 ^ n : Nat) : Int) := by omega
  have q2 : ¬ (i : Int) < 0 := by omega
  have q3 : ¬ (i : Int) ≥ (n : Int) := by omega
  rw [decide_eq_true (show 1 ≤ (n : Int) ∧ (n : Int) ≤ 7 by omega), decide_eq_false q0, decide_eq_false q1, decide_eq_false q2, decide_eq_false q3, if_pos rfl, if_neg Bool.false_ne_true, req_pos (by omega), if_neg Bool.false_ne_true, if_neg Bool.false_ne_true, if_neg Bool.false_ne_true, ar64 (by omega) (by omega)]
  rfl

/- the law -/
end Go.Gh.Hat
