/- SaleLeonard: the plain law. -/
import Derived.Test.YtdbaljbhnpchjaaSaleB7
namespace Go.Gh.Sale
set_option linter.unusedVariables false
set_option linter.unusedSimpArgs false

theorem works7 : f16 10000 = some true := by decide +kernel

theorem f7_p2_eq {F m : Nat} {s : List (List Int)} (hv : Vs m s) : ∀ (k i : Nat), i ≤ s.length → s.length < k + i → f7_p2 F (paysL m s) (lowP m s) (bestD m s) k i = some .c1 := by
  have hn := hv.n
  have hm := hv.m5
  have hbl := (best_len hv).1
  intro k
  induction k with
  | zero => intro i _ h; omega
  | succ k ih =>
    intro i h1 h2
    unfold f7_p2
    by_cases hi : i < s.length
    · obtain ⟨p1, p2⟩ := at_best hv hi
      have ep : at? (paysL m s) i = some (pay m s i) := by
        unfold paysL
        rw [at_of]
        rw [List.getElem?_map, List.getElem?_range hi]; rfl
      have el := lowP_at hv hi
      have e6 : f7_p6 F (paysL m s) (lowP m s) i (lot m s i) (bestD m s) = some (pay m s i) := by
        unfold f7_p6
        by_cases h0 : lot m s i ≥ 0
        · obtain ⟨x, hx⟩ : ∃ x : Nat, lot m s i = x := ⟨(lot m s i).toNat, by omega⟩
          rw [hx] at el p2 ⊢
          rw [if_pos (by simp), at_get (by rw [lowP_len]; omega), Option.bind_some, ← pr_nat, el]
        · have hx : lot m s i = -1 := by omega
          rw [if_neg (by simpa using h0), pay_none hv hi hx]
      rw [if_pos (by simp; omega), p1, Option.bind_some, if_neg (by simp; omega), if_neg (by simp [lowP_len]; omega), e6, Option.bind_some, ep, Option.bind_some, if_neg (by simp), w64_succ (by omega)]
      exact ih (i + 1) (by omega) (by omega)
    · rw [if_neg (by simp; omega)]

theorem f7_plain (b l : Int) (w : List Int) (hb : 0 ≤ b ∧ b ≤ 255) (hl : 0 ≤ l ∧ l ≤ 255) (hw : w.length = 16) (hx : ∀ x : Int, x ∈ w → 0 ≤ x ∧ x ≤ 255) : f7 10000 b l w = some true := by
  obtain ⟨s, m, e43, hv, hs, hm, _⟩ := made_eq (F := 10000) (most := 99) (nb := 4) (nl := 4) (by omega) (by omega) ⟨by omega, by omega⟩ (by omega) hb hl hw hx
  have hn := hv.n
  obtain ⟨r, q1, q2⟩ := hv.at0
  have hck := hv.ck
  have hbl := (best_len hv).1
  unfold f7
  rw [show f43 10000 b l w 4 4 99 = some s from e43, Option.bind_some, f17_eq (by omega), f26_eq (by omega), f39_eq (by omega), hv.head, if_neg (by simpa using hck), if_neg (by simpa using hck), if_neg (by simpa using hck), Option.bind_some]
  dsimp only
  rw [Option.bind_some]
  dsimp only
  rw [Option.bind_some]
  dsimp only
  rw [if_neg (by decide), if_neg (by decide), if_neg (by decide), if_neg (by simp [hbl]), if_neg (by simp [paysL]), q1, Option.bind_some, if_neg (by simp [lowP_len, q2]), show f7_p2 10000 (paysL m s) (lowP m s) (bestD m s) 10000 0 = _ from f7_p2_eq hv 10000 0 (by omega) (by omega), Option.bind_some]
  dsimp only
  rw [works7]
  rfl

end Go.Gh.Sale
