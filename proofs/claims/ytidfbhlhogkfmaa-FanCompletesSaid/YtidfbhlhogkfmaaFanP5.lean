/- The plain law of FanCompletes. -/
import Derived.Test.YtidfbhlhogkfmaaFanR
namespace Go.Gh.Fan
set_option linter.unusedVariables false
set_option linter.unusedSimpArgs false

theorem can_small : ∀ w : Bool, ∀ k ∈ ([1, 2, 3, 4, 5, 6, 7, 8] : List Int), f29 100 k w = f30 100 k w ∧ f31 100 k w = f32 100 k w ∧ (f29 100 k w).isSome = true ∧ (f31 100 k w).isSome = true := by decide +kernel

theorem can_eq (k : Int) (w : Bool) : (∃ a b, f29 100 k w = some (a, b) ∧ f30 100 k w = some (a, b)) ∧ (∃ a b, f31 100 k w = some (a, b) ∧ f32 100 k w = some (a, b)) := by
  by_cases h : 1 ≤ k ∧ k ≤ 8
  · obtain ⟨h1, h2, h3, h4⟩ := can_small w k (by simp; omega)
    obtain ⟨x, hx⟩ := Option.isSome_iff_exists.1 h3
    obtain ⟨y, hy⟩ := Option.isSome_iff_exists.1 h4
    exact ⟨⟨x.1, x.2, hx, by rw [← h1, hx]⟩, ⟨y.1, y.2, hy, by rw [← h2, hy]⟩⟩
  · have e : decide (1 ≤ k ∧ k ≤ 8) = false := decide_eq_false h
    refine ⟨⟨false, 1, ?_, ?_⟩, ⟨0, 1, ?_, ?_⟩⟩
    · unfold f29; rw [f58_eq, e]; rfl
    · unfold f30 f32; rw [f63_eq, e]; rfl
    · unfold f31; rw [f58_eq, e]; rfl
    · unfold f32; rw [f63_eq, e]; rfl

theorem f33_bad {n : Int} {w : Bool} {l : List Int} (hl : l.length ≤ 60) (h : code n w l ≠ 0) : f33 100 n w l = some (0, false, [], code n w l) := by
  unfold f33
  rw [f57_eq (by omega) (by omega), if_neg h]
  simp [h]
theorem f34_bad {n : Int} {w : Bool} {l : List Int} (hl : l.length ≤ 60) (h : code n w l ≠ 0) : f34 100 n w l = some (0, false, [], code n w l) := by
  unfold f34
  rw [f52_eq (by omega) (by omega)]
  simp [h]
theorem f35_bad {n : Int} {w : Bool} {l : List Int} (hl : l.length ≤ 60) (h : code n w l ≠ 0) : f35 100 n w l = some (0, code n w l) := by
  unfold f35
  rw [f57_eq (by omega) (by omega), if_neg h]
  simp [h]
theorem f36_bad {n : Int} {w : Bool} {l : List Int} (hl : l.length ≤ 60) (h : code n w l ≠ 0) : f36 100 n w l = some (0, code n w l) := by
  unfold f36
  rw [f52_eq (by omega) (by omega)]
  simp [h]

theorem f14_true : f14 100 = some true := by decide +kernel

/-- Both complete, and count, alike. -/
theorem both {n : Int} {w : Bool} {l : List Int} (hl : l.length ≤ 60) : ∃ a b c d e f, f33 100 n w l = some (a, b, c, d) ∧ f34 100 n w l = some (a, b, c, d) ∧ f35 100 n w l = some (e, f) ∧ f36 100 n w l = some (e, f) ∧ c.length ≤ 60 := by
  by_cases h : code n w l = 0
  · have v := code_zero.1 h
    have hr := v.rng
    have hlen := v.len
    obtain ⟨m, rfl⟩ := Int.eq_ofNat_of_zero_le (show 0 ≤ n by omega)
    have hm := mis_le (n := m) l
    have e1 := f33_eq v (all_good v) fun x hx => ((all_mem v).1 hx).good.2
    have e2 := f34_eq v
    have e3 := f35_eq v
    have e4 := f36_eq v
    rw [Int.toNat_natCast] at e1 e3
    rw [same_head v (f := 100) (by omega)] at e1
    rw [e1, e2, e3, e4]
    cases hc : (rc w m 100 l).head? with
    | none => exact ⟨_, _, _, _, _, _, rfl, rfl, rfl, rfl, by simp⟩
    | some x =>
      have hx := ((rc_mem 100 l v (by omega)).1 (List.mem_of_head? hc)).good.2
      exact ⟨_, _, _, _, _, _, rfl, rfl, rfl, rfl, by omega⟩
  · exact ⟨_, _, _, _, _, _, f33_bad hl h, f34_bad hl h, f35_bad hl h, f36_bad hl h, by simp⟩

theorem f5_plain (n : Int) (w : Bool) (l : List Int) (k : Int) (_ : -9223372036854775808 ≤ k ∧ k ≤ 9223372036854775807) : f5 100 n w l k = some true := by
  unfold f5 f13
  by_cases hl : (l.length : Int) > 60
  · simp [hl, f14_true]
  · have hl' : l.length ≤ 60 := by omega
    obtain ⟨⟨a1, a2, a3, a4⟩, ⟨b1, b2, b3, b4⟩⟩ := can_eq k w
    obtain ⟨a, b, c, d, e, f, h1, h2, h3, h4, h5⟩ := both (n := n) (w := w) hl'
    rw [a3, a4, b3, b4, h1, h2, h3, h4]
    simp [hl, f14_true, f21_refl (F := 100) (l := c) (by omega) (by omega)]

end Go.Gh.Fan
