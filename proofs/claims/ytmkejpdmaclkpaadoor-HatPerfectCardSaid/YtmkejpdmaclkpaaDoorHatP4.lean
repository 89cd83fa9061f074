/- The plain law of HatPerfect. -/
import Derived.Test.YtmkejpdmaclkpaaDoorHatS
namespace Go.Gh.Hat
set_option linter.unusedVariables false
set_option linter.unusedSimpArgs false

theorem f21_1_refl {l : List Int} (hl : l.length ≤ 900) {o : Option (List Int)} (ho : o.getD [] = l) : f21_1 1000 l o = some true := by
  have key : ∀ (s p : List Int) (f : Nat), p ++ s = l → s.length < f → f21_1_p2 1000 l o f p.length = some .c1 := by
    intro s
    induction s with
    | nil =>
      intro p f hp hf
      obtain ⟨f, rfl⟩ : ∃ g, f = g + 1 := ⟨f - 1, by omega⟩
      rw [List.append_nil] at hp
      rw [← hp]
      simp [f21_1_p2]
    | cons x s ih =>
      intro p f hp hf
      simp only [List.length_cons] at hf
      obtain ⟨f, rfl⟩ : ∃ g, f = g + 1 := ⟨f - 1, by omega⟩
      have hlt : ((p.length : Int) < ((l.length : Nat) : Int)) := by rw [← hp]; simp; omega
      have hat : at? l ((p.length : Nat) : Int) = some x := by rw [← hp]; exact at_mid p x s
      have hpl : p.length ≤ 900 := by rw [← hp, List.length_append] at hl; omega
      simp only [f21_1_p2, decide_eq_true hlt, if_true, ho, hat, Option.bind_some, bne_self_eq_false, Bool.false_eq_true, if_false]
      rw [w64_nat (by omega)]
      have := ih (p ++ [x]) f (by simpa using hp) (by omega)
      simpa using this
  unfold f21_1
  rw [ho]
  have := key l [] 1000 rfl (by omega)
  simp only [List.length_nil, Int.natCast_zero] at this
  simp [this]

def bestB (n : Int) : Bool := match f27 1000 n, f28 1000 n with
  | some (c, i), some (d, j) => d.getD [] == c && (i == j && decide (c.length ≤ 900))
  | _, _ => false
def perfB (n : Int) : Bool := match f23 1000 n, f24 1000 n with
  | some (a, e), some (b, f) => a == b && (e == f && decide (a.length ≤ 900))
  | _, _ => false
def mostB (n : Int) : Bool := match f29 1000 n, f30 1000 n with
  | some (a, e), some (b, f) => a == b && e == f
  | _, _ => false

theorem best_true : ∀ n ∈ ([1, 2, 3, 4, 5, 6, 7] : List Int), bestB n = true := by decide +kernel
theorem most_true : ∀ n ∈ ([1, 2, 3, 4, 5, 6, 7] : List Int), mostB n = true := by decide +kernel
theorem perf_true : ∀ n ∈ ([1, 2, 3, 4, 5, 6, 7] : List Int), perfB n = true := by decide +kernel

theorem best_both (n : Int) : ∃ c d i, f27 1000 n = some (c, i) ∧ f28 1000 n = some (d, i) ∧ d.getD [] = c ∧ c.length ≤ 900 := by
  by_cases h : 1 ≤ n ∧ n ≤ 7
  · have := best_true n (by simp; omega)
    unfold bestB at this
    split at this
    · rename_i c i d j e1 e2
      simp only [Bool.and_eq_true, beq_iff_eq, decide_eq_true_eq] at this
      exact ⟨c, d, i, e1, by rw [e2, this.2.1], this.1, this.2.2⟩
    · cases this
  · refine ⟨[], none, 1, ?_, ?_, rfl, by simp⟩
    · unfold f27; rw [f74_eq, decide_eq_false h]; rfl
    · unfold f28; rw [f76_eq, decide_eq_false h]; rfl

theorem most_both (n : Int) : ∃ a b, f29 1000 n = some (a, b) ∧ f30 1000 n = some (a, b) := by
  by_cases h : 1 ≤ n ∧ n ≤ 7
  · have := most_true n (by simp; omega)
    unfold mostB at this
    split at this
    · rename_i c i d j e1 e2
      simp only [Bool.and_eq_true, beq_iff_eq] at this
      exact ⟨c, i, e1, by rw [e2, this.1, this.2]⟩
    · cases this
  · have e27 : f27 1000 n = some ([], 1) := by unfold f27; rw [f74_eq, decide_eq_false h]; rfl
    have e28 : f28 1000 n = some (none, 1) := by unfold f28; rw [f76_eq, decide_eq_false h]; rfl
    refine ⟨0, 1, ?_, ?_⟩
    · unfold f29; rw [e27]; rfl
    · unfold f30; rw [e28]; rfl

theorem f69_eq (n : Int) : f69 1000 n = some (if 1 ≤ n ∧ n ≤ 7 then if n = 1 ∨ n = 3 ∨ n = 7 then 0 else 12 else 1) := by
  by_cases h : 1 ≤ n ∧ n ≤ 7
  · have : ∀ n ∈ ([1, 2, 3, 4, 5, 6, 7] : List Int), f69 1000 n = some (if 1 ≤ n ∧ n ≤ 7 then if n = 1 ∨ n = 3 ∨ n = 7 then 0 else 12 else 1) := by decide +kernel
    exact this n (by simp; omega)
  · rw [if_neg h]; unfold f69; rw [f74_eq, decide_eq_false h]; rfl
theorem f71_eq (n : Int) : f71 1000 n = some (if 1 ≤ n ∧ n ≤ 7 then if n = 1 ∨ n = 3 ∨ n = 7 then 0 else 12 else 1) := by
  by_cases h : 1 ≤ n ∧ n ≤ 7
  · have : ∀ n ∈ ([1, 2, 3, 4, 5, 6, 7] : List Int), f71 1000 n = some (if 1 ≤ n ∧ n ≤ 7 then if n = 1 ∨ n = 3 ∨ n = 7 then 0 else 12 else 1) := by decide +kernel
    exact this n (by simp; omega)
  · rw [if_neg h]; unfold f71; rw [f76_eq, decide_eq_false h]; rfl

theorem perf_both (n : Int) : ∃ a e, f23 1000 n = some (a, e) ∧ f24 1000 n = some (a, e) ∧ a.length ≤ 900 := by
  by_cases h : 1 ≤ n ∧ n ≤ 7
  · have := perf_true n (by simp; omega)
    unfold perfB at this
    split at this
    · rename_i c i d j e1 e2
      simp only [Bool.and_eq_true, beq_iff_eq, decide_eq_true_eq] at this
      exact ⟨c, i, e1, by rw [e2, this.1, this.2.1], this.2.2⟩
    · cases this
  · refine ⟨[], 1, ?_, ?_, by simp⟩
    · unfold f23; rw [f69_eq, if_neg h]; rfl
    · unfold f24; rw [f71_eq, if_neg h]; rfl

theorem f73_eq {n : Int} (c : Int) : f73 1000 n c = some (if 1 ≤ n ∧ n ≤ 7 then if 0 ≤ c ∧ c < ((2 ^ n.toNat : Nat) : Int) then 0 else 2 else 1) := by
  unfold f73
  rw [f76_eq]
  by_cases h : 1 ≤ n ∧ n ≤ 7
  · obtain ⟨m, rfl⟩ := Int.eq_ofNat_of_zero_le (show 0 ≤ n by omega)
    have hp := pw_le (n := m) (by omega)
    rw [decide_eq_true h, if_pos h]
    simp only [Option.bind_some, if_true, Int.toNat_natCast]
    rw [f61_eq (by omega)]
    simp only [Option.bind_some, f76_eq]
    rw [w64_in (by omega)]
    by_cases g : 0 ≤ c ∧ c < ((2 ^ m : Nat) : Int)
    · rw [if_pos g, decide_eq_true (by omega)]; rfl
    · rw [if_neg g, decide_eq_false (by omega)]; rfl
  · rw [decide_eq_false h, if_neg h]; rfl

def nearB : Bool := ([1, 3, 7] : List Nat).all fun n => (List.range (2 ^ n)).all fun c => (f25 1000 (n : Int) (c : Int)).isSome && f25 1000 (n : Int) (c : Int) == f26 1000 (n : Int) (c : Int)
theorem near_true : nearB = true := by decide +kernel

theorem near_both (n c : Int) : ∃ a b, f25 1000 n c = some (a, b) ∧ f26 1000 n c = some (a, b) := by
  have e1 := f69_eq n
  have e2 := f71_eq n
  by_cases h : 1 ≤ n ∧ n ≤ 7
  · rw [if_pos h] at e1 e2
    by_cases g : n = 1 ∨ n = 3 ∨ n = 7
    · rw [if_pos g] at e1 e2
      obtain ⟨m, rfl⟩ := Int.eq_ofNat_of_zero_le (show 0 ≤ n by omega)
      have hp := pw_le (n := m) (by omega)
      by_cases q : 0 ≤ c ∧ c < ((2 ^ m : Nat) : Int)
      · obtain ⟨c, rfl⟩ := Int.eq_ofNat_of_zero_le q.1
        have h1 := List.all_eq_true.1 near_true m (by simp; omega)
        have h2 := List.all_eq_true.1 h1 c (by simp only [List.mem_range]; omega)
        simp only [Bool.and_eq_true, beq_iff_eq] at h2
        obtain ⟨x, hx⟩ := Option.isSome_iff_exists.1 h2.1
        exact ⟨x.1, x.2, hx, by rw [← h2.2, hx]⟩
      · have e3 := f73_eq (n := (m : Int)) c
        rw [if_pos h, Int.toNat_natCast, if_neg q] at e3
        refine ⟨0, 2, ?_, ?_⟩
        · unfold f25
          rw [e1]
          simp only [Option.bind_some, bne_self_eq_false, Bool.false_eq_true, if_false]
          by_cases q0 : c < 0
          · rw [decide_eq_true q0]; rfl
          · have q1 : c ≥ ((2 ^ m : Nat) : Int) := by omega
            rw [decide_eq_false q0, if_neg Bool.false_ne_true, req_pos (by omega), shl_eq (by omega), decide_eq_true q1]; rfl
        · unfold f26
          rw [e2]
          simp only [Option.bind_some, f26_p0, beq_self_eq_true, if_true]
          rw [e3]; rfl
    · rw [if_neg g] at e1 e2
      refine ⟨0, 12, ?_, ?_⟩
      · unfold f25; rw [e1]; rfl
      · unfold f26; rw [e2]; rfl
  · rw [if_neg h] at e1 e2
    refine ⟨0, 1, ?_, ?_⟩
    · unfold f25; rw [e1]; rfl
    · unfold f26; rw [e2]; rfl

theorem f4_plain (n c : Int) : f4 1000 n c = some true := by
  unfold f4
  obtain ⟨a1, a2, a3, a4, a5⟩ := perf_both n
  obtain ⟨b1, b2, b3, b4⟩ := near_both n c
  obtain ⟨c1, c2, c3, c4, c5, c6, c7⟩ := best_both n
  obtain ⟨d1, d2, d3, d4⟩ := most_both n
  rw [a3, a4, b3, b4, c4, c5, d3, d4]
  simp [f21_refl a5, f21_1_refl c7 c6, works]

end Go.Gh.Hat
