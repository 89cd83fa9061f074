/- The plain law of FanPuts. -/
import Derived.Test.YtidfbhlhogkfmaaFanV
namespace Go.Gh.Fan
set_option linter.unusedVariables false
set_option linter.unusedSimpArgs false

theorem put_len {n : Int} {w : Bool} {l : List Int} {k p : Int} (h : l.length ≤ 60) : (putS n w l k p).2.2.1.length ≤ 60 := by
  unfold putS
  split
  · split
    · split
      · split
        · simpa [set2_len] using h
        · simp
      · simp
    · simp
  · simp
theorem take_len {n : Int} {w : Bool} {l : List Int} {k : Int} (h : l.length ≤ 60) : (takeS n w l k).2.2.1.length ≤ 60 := by
  unfold takeS
  split
  · split
    · split
      · simp
      · simpa [set2_len] using h
    · simp
  · simp
theorem free_len {n : Int} {w : Bool} {l : List Int} {k : Int} (h : l.length ≤ 60) : (freeS n w l k).1.length ≤ 60 := by
  have := frs_len w l k.toNat l.length
  unfold freeS
  split
  · split
    · split
      · simp only []; omega
      · simp
    · simp
  · simp

theorem f14_true : f14 100 = some true := by decide +kernel

theorem f3_plain (n : Int) (w : Bool) (l : List Int) (k p : Int) : f3 100 n w l k p = some true := by
  unfold f3 f13
  by_cases hl : (l.length : Int) > 60
  · simp [hl, f14_true]
  · have hl' : l.length ≤ 60 := by omega
    rw [f15_eq hl', f16_eq hl', f17_eq hl', f18_eq hl', f19_eq hl', f20_eq hl']
    have h1 := put_len (n := n) (w := w) (k := k) (p := p) hl'
    have h2 := take_len (n := n) (w := w) (k := k) hl'
    have h3 := free_len (n := n) (w := w) (k := k) hl'
    generalize putS n w l k p = a at *
    generalize takeS n w l k = b at *
    generalize freeS n w l k = c at *
    obtain ⟨a1, a2, a3, a4⟩ := a
    obtain ⟨b1, b2, b3, b4⟩ := b
    obtain ⟨c1, c2⟩ := c
    simp only at h1 h2 h3
    simp [hl, f14_true, f21_refl (F := 100) (l := a3) (by omega) (by omega), f21_refl (F := 100) (l := b3) (by omega) (by omega), f22_refl (F := 100) (l := c1) (by omega) (by omega)]

end Go.Gh.Fan
