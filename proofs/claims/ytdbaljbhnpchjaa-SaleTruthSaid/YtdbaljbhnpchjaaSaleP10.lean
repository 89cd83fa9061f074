/- SaleTruth: the plain law. -/
import Derived.Test.YtdbaljbhnpchjaaSaleB10
namespace Go.Gh.Sale
set_option linter.unusedVariables false
set_option linter.unusedSimpArgs false

theorem f51_eq {F m b : Nat} {s : List (List Int)} {l : List Int} (hF : 100 ≤ F) (hv : Vs m s) (hb : b < s.length) (hl : l.length = m ∧ ∀ x ∈ l, 0 ≤ x ∧ x ≤ 99) : f51 F l s b (gainsL m s) true = some true := by
  have hn := hv.n
  have hv' := hv.set (b := b) hl
  have hb' : b < (s.set b l).length := by rw [List.length_set]; exact hb
  have e52 : f52_1 F s = some s := by
    unfold f52_1
    rw [req_pos (by intro h; rw [h] at hn; exact absurd hn.1 (by decide)), req_pos (by simp; omega), List.nil_append]
  have eset : List.drop 0 (List.take (0 + s.length) (s.set (0 + b) l)) = s.set b l := by
    rw [Nat.zero_add, Nat.zero_add, List.drop_zero, List.take_of_length_le (by simp)]
  obtain ⟨p1, p2⟩ := at_best hv' hb'
  have c1 := best_wB hv' hb'
  have q1 := pay_bd hv' hb'
  have q2 := row_bd (b := b) hv (lot m (s.set b l) b)
  have q3 := row_bd (b := b) hv' (lot m (s.set b l) b)
  have ht := truth hv hv' hb
  have eg : at? (gainsL m s) b = some (vl (s[b]?.getD []) (lot m s b) - pay m s b) := by
    unfold gainsL
    rw [at_of]
    rw [List.getElem?_map, List.getElem?_range hb]; rfl
  have e17 : f51_p1 F s b l (bestD m (s.set b l)) (lot m (s.set b l) b) (pay m (s.set b l) b) (vl (s[b]?.getD []) (lot m (s.set b l) b) - pay m (s.set b l) b) 0 (lot m (s.set b l) b) s (gainsL m s) true = some (vl (s[b]?.getD []) (lot m (s.set b l) b)) := by
    unfold f51_p1
    by_cases hx : lot m (s.set b l) b ≥ 0
    · obtain ⟨j, hj⟩ : ∃ j : Nat, lot m (s.set b l) b = j := ⟨(lot m (s.set b l) b).toNat, by omega⟩
      rw [hj] at p1 p2 ⊢
      have hlen := (hv.ok _ (List.getElem_mem hb)).1
      rw [if_pos (by simp), at_get hb, Option.bind_some, p1, Option.bind_some, at_get (by omega), Option.bind_some, List.getElem?_eq_getElem hb, Option.getD_some]
      unfold vl
      rw [if_neg (by omega), Int.toNat_natCast, List.getElem?_eq_getElem (by omega), Option.getD_some]
    · rw [if_neg (by simpa using hx)]
      unfold vl
      rw [if_pos (by omega)]
  unfold f51
  rw [if_pos rfl, e52, Option.bind_some, req_pos (by omega), req_pos (by rw [Int.toNat_natCast]; omega), req_pos (by simp), Int.toNat_natCast, eset, split_eq hF hv', Option.bind_some]
  dsimp only
  rw [told_ok hF hv hb hl, Option.bind_some]
  dsimp only
  rw [p1, Option.bind_some, e17, Option.bind_some, f48_W hF hv', Option.bind_some, f49_eq hF hv' (best_len hv').1 (best_len hv').2, Option.bind_some, c1]
  have ep : w64 (W m (s.set b l) b - (W m (s.set b l) (-1) - vl ((s.set b l)[b]?.getD []) (lot m (s.set b l) b))) = pay m (s.set b l) b := w64_in (n := pay m (s.set b l) b) (by omega)
  rw [ep, if_pos (by decide), if_pos (by simp), if_pos (by simp), w64_in (by omega), if_pos (by simp), eg, Option.bind_some]
  rw [decide_eq_true ht]

/- The grid of lies. -/
theorem f94_eq {F m b : Nat} {s : List (List Int)} (hF : 100 ≤ F) (hv : Vs m s) (hb : b < s.length) : ∀ (r k : Nat) (l : List Int), l.length + r = m → r < k → (∀ x ∈ l, 0 ≤ x ∧ x ≤ 99) → f94 F k l s b (gainsL m s) true m 3 = some true := by
  intro r
  induction r with
  | zero =>
    intro k l h1 h2 h3
    obtain ⟨k, rfl⟩ : ∃ k', k = k' + 1 := ⟨k - 1, by omega⟩
    unfold f94 f94_b
    rw [if_pos (by simp; omega), f51_eq hF hv hb ⟨by omega, h3⟩, Option.bind_some]
  | succ r ih =>
    intro k l h1 h2 h3
    have hm := hv.m5
    obtain ⟨k, rfl⟩ : ∃ k', k = k' + 1 := ⟨k - 1, by omega⟩
    have loop : ∀ (q i : Nat), i ≤ 4 → 4 < q + i → f94_p2 F (f94 F k) l s b (gainsL m s) m 3 q i true = some true := by
      intro q
      induction q with
      | zero => intro i _ h; omega
      | succ q ihq =>
        intro i hi hq
        unfold f94_p2
        by_cases h : i ≤ 3
        · rw [if_pos (by simp; omega), f95_eq, Option.bind_some, req_pos (by simp; omega), ih k (l ++ [(i : Int)]) (by simp; omega) (by omega) (fun x hx => ?_), Option.bind_some, w64_succ (by omega)]
          · exact ihq (i + 1) (by omega) (by omega)
          · rcases List.mem_append.1 hx with hx | hx
            · exact h3 x hx
            · simp at hx; subst hx; omega
        · rw [if_neg (by simp; omega)]
    unfold f94 f94_b
    rw [if_neg (by simp; omega), show f94_p2 F (f94 F k) l s b (gainsL m s) m 3 F 0 true = _ from loop F 0 (by omega) (by omega), Option.bind_some]

theorem f10_p2_eq {F m : Nat} {s : List (List Int)} {q : Int} (hF : 100 ≤ F) (hv : Vs m s) : ∀ (k i : Nat), i ≤ s.length → s.length < k + i → f10_p2 F (paysL m s) (bestD m s) s q (gainsL m s) k i = some .c1 := by
  have hn := hv.n
  have hbl := (best_len hv).1
  intro k
  induction k with
  | zero => intro i _ h; omega
  | succ k ih =>
    intro i h1 h2
    unfold f10_p2
    by_cases hi : i < s.length
    · obtain ⟨p1, p2⟩ := at_best hv hi
      have c1 := best_wB hv hi
      have q1 := pay_bd hv hi
      have q2 := row_bd (b := i) hv (lot m s i)
      have eg : at? (gainsL m s) i = some (vl (s[i]?.getD []) (lot m s i) - pay m s i) := by
        unfold gainsL
        rw [at_of]
        rw [List.getElem?_map, List.getElem?_range hi]; rfl
      have ep : at? (paysL m s) i = some (pay m s i) := by
        unfold paysL
        rw [at_of]
        rw [List.getElem?_map, List.getElem?_range hi]; rfl
      have e5 : f10_p5 F (paysL m s) (bestD m s) i (lot m s i) s q (gainsL m s) = some (vl (s[i]?.getD []) (lot m s i)) := by
        unfold f10_p5
        by_cases hx : lot m s i ≥ 0
        · obtain ⟨j, hj⟩ : ∃ j : Nat, lot m s i = j := ⟨(lot m s i).toNat, by omega⟩
          rw [hj] at p2 ⊢
          have hlen := (hv.ok _ (List.getElem_mem hi)).1
          rw [if_pos (by simp), at_get hi, Option.bind_some, at_get (by omega), Option.bind_some, List.getElem?_eq_getElem hi, Option.getD_some]
          unfold vl
          rw [if_neg (by omega), Int.toNat_natCast, List.getElem?_eq_getElem (by omega), Option.getD_some]
        · rw [if_neg (by simpa using hx)]
          unfold vl
          rw [if_pos (by omega)]
      have ew : w64 (W m s i - (W m s (-1) - vl (s[i]?.getD []) (lot m s i))) = pay m s i := w64_in (n := pay m s i) (by omega)
      rw [if_pos (by simp; omega), p1, Option.bind_some, e5, Option.bind_some, f48_W hF hv, Option.bind_some, f49_eq hF hv hbl (best_len hv).2, Option.bind_some, c1, ew, ep, Option.bind_some, if_neg (by simp), eg, Option.bind_some, w64_in (by omega), if_neg (by simp), if_neg (by simp; omega), if_neg (by simp; omega), w64_succ (by omega)]
      exact ih (i + 1) (by omega) (by omega)
    · rw [if_neg (by simp; omega)]

theorem f10_plain (b l : Int) (w : List Int) (c : Int) (hb : 0 ≤ b ∧ b ≤ 255) (hl : 0 ≤ l ∧ l ≤ 255) (hw : w.length = 16) (hx : ∀ x : Int, x ∈ w → 0 ≤ x ∧ x ≤ 255) (hc : 0 ≤ c ∧ c ≤ 255) : f10 10000 b l w c = some true := by
  obtain ⟨s, m, e43, hv, hs, hm, _⟩ := made_eq (F := 10000) (most := 3) (nb := 3) (nl := 3) (by omega) (by omega) ⟨by omega, by omega⟩ (by omega) hb hl hw hx
  have hn := hv.n
  obtain ⟨r, q1, q2⟩ := hv.at0
  obtain ⟨c1, c2, c3⟩ := tmod_bd (n := s.length) hc hn.1
  obtain ⟨j, hj⟩ : ∃ j : Nat, Int.tmod c s.length = j := ⟨(Int.tmod c s.length).toNat, by omega⟩
  have hck := hv.ck
  unfold f10
  rw [show f43 10000 b l w 3 3 3 = some s from e43, Option.bind_some, req_pos (by omega), f28_eq (by omega), f26_eq (by omega), hv.head, if_neg (by simpa using hck), if_neg (by simpa using hck), Option.bind_some]
  dsimp only
  rw [Option.bind_some]
  dsimp only
  rw [if_neg (by decide), if_neg (by decide), if_neg (by simp [gainsL]), if_neg (by simp [paysL]), split_eq (by omega) hv, Option.bind_some]
  dsimp only
  rw [show f10_p2 10000 (paysL m s) (bestD m s) s c (gainsL m s) 10000 0 = _ from f10_p2_eq (by omega) hv 10000 0 (by omega) (by omega), Option.bind_some]
  dsimp only
  rw [q1, Option.bind_some, q2, c1, hj]
  unfold f50
  rw [f94_eq (by omega) hv (by omega) m 10000 [] (by simp) (by have := hv.m5; omega) (by simp), Option.bind_some, Option.bind_some, if_pos rfl, works10]
  rfl

end Go.Gh.Sale
