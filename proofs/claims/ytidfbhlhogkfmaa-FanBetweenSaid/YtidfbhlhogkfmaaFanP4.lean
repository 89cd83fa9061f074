/- The plain law of FanBetween. -/
import Derived.Test.YtidfbhlhogkfmaaFanX
namespace Go.Gh.Fan
set_option linter.unusedVariables false
set_option linter.unusedSimpArgs false

theorem betw_len {n : Int} {w : Bool} {l : List Int} {k : Int} (h : l.length ≤ 60) : (betwS n w l k).1.length ≤ 60 := by
  unfold betwS btwL
  split
  · split
    · split
      · simp
      · simp; omega
    · simp
  · simp
theorem cross_len {n : Int} {w : Bool} {l : List Int} {k : Int} (h : code n w l = 0 → n ≤ 60) : (crossS n w l k).1.length ≤ 60 := by
  unfold crossS
  split
  · rename_i hc
    have := crs_len w l k.toNat n.toNat 1
    have := h hc
    split
    · split
      · simp
      · simp only []; omega
    · simp
  · simp

theorem f14_true : f14 100 = some true := by decide +kernel

theorem f4_plain (n : Int) (w : Bool) (l : List Int) (k p : Int) : f4 100 n w l k p = some true := by
  unfold f4 f13
  by_cases hl : (l.length : Int) > 60
  · simp [hl, f14_true]
  · have hl' : l.length ≤ 60 := by omega
    rw [f23_eq hl', f24_eq hl', f25_eq hl', f26_eq hl', f27_eq hl', f28_eq hl']
    have h2 := betw_len (n := n) (w := w) (k := k) hl'
    have h3 := cross_len (n := n) (w := w) (k := k) (l := l) (fun h => by have := (code_zero.1 h).rng; omega)
    generalize partS n w l p = a at *
    generalize betwS n w l k = b at *
    generalize crossS n w l k = c at *
    obtain ⟨a1, a2⟩ := a
    obtain ⟨b1, b2⟩ := b
    obtain ⟨c1, c2⟩ := c
    simp only at h2 h3
    simp [hl, f14_true, f22_refl (F := 100) (l := b1) (by omega) (by omega), f22_refl (F := 100) (l := c1) (by omega) (by omega)]

end Go.Gh.Fan
